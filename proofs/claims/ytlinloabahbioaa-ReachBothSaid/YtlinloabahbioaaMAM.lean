/- Part of the proof of ReachBoth: printed mirrors of the functions, or their contracts. No conditions. -/
import Derived.Test.YtlinloabahbioaaMAMa
set_option linter.unusedVariables false
set_option maxRecDepth 100000
namespace Go.Eng
open Go
def palingref11_form (a1 : List ByteArray) : Option (ByteArray) :=
  if ((a1.length : Int) == 0) = true then
    some (⟨#[]⟩ : ByteArray)
  else
    (nth a1 0).bind fun x3 =>
    if (seqB x3 (⟨#[100, 101, 118, 105, 99, 101]⟩ : ByteArray)) = true then
      some (⟨#[78, 80, 77]⟩ : ByteArray)
    else
      if (seqB x3 (⟨#[108, 105, 110, 107]⟩ : ByteArray)) = true then
        some (⟨#[78, 78, 78, 78]⟩ : ByteArray)
      else
        if (seqB x3 (⟨#[115, 116, 97, 116, 105, 99]⟩ : ByteArray)) = true then
          some (⟨#[78, 86, 77, 78]⟩ : ByteArray)
        else
          if (seqB x3 (⟨#[118, 116, 101, 112]⟩ : ByteArray)) = true then
            some (⟨#[78, 65]⟩ : ByteArray)
          else
            if (seqB x3 (⟨#[118, 110, 105]⟩ : ByteArray)) = true then
              some (⟨#[78, 86, 73]⟩ : ByteArray)
            else
              if (seqB x3 (⟨#[102, 108, 111, 111, 100]⟩ : ByteArray)) = true then
                some (⟨#[78, 73, 76]⟩ : ByteArray)
              else
                if (seqB x3 (⟨#[118, 114, 102]⟩ : ByteArray)) = true then
                  some (⟨#[78, 78, 82, 82]⟩ : ByteArray)
                else
                  if (seqB x3 (⟨#[105, 114, 98]⟩ : ByteArray)) = true then
                    some (⟨#[78, 86, 78, 83]⟩ : ByteArray)
                  else
                    if (seqB x3 (⟨#[112, 111, 114, 116]⟩ : ByteArray)) = true then
                      if ((a1.length : Int) == 7) = true then
                        (nth a1 4).bind fun x15 =>
                        if (!(seqB x15 (⟨#[97, 99, 99, 101, 115, 115]⟩ : ByteArray))) = true then
                          some (⟨#[78, 78, 67, 75, 87, 84]⟩ : ByteArray)
                        else
                          if ((a1.length : Int) == 6) = true then
                            (nth a1 4).bind fun x19 =>
                            if (!(seqB x19 (⟨#[116, 114, 117, 110, 107]⟩ : ByteArray))) = true then
                              some (⟨#[78, 78, 67, 75, 86]⟩ : ByteArray)
                            else
                              some (⟨#[]⟩ : ByteArray)
                          else
                            some (⟨#[]⟩ : ByteArray)
                      else
                        if ((a1.length : Int) == 6) = true then
                          (nth a1 4).bind fun x23 =>
                          if (!(seqB x23 (⟨#[116, 114, 117, 110, 107]⟩ : ByteArray))) = true then
                            some (⟨#[78, 78, 67, 75, 86]⟩ : ByteArray)
                          else
                            some (⟨#[]⟩ : ByteArray)
                        else
                          some (⟨#[]⟩ : ByteArray)
                    else
                      some (⟨#[]⟩ : ByteArray)

def palingref11_kind_L1 (a1 : ByteArray) (v2 : Int) : Option ((Int) ⊕ (Int ⊕ Unit)) :=
  if (decide (v2 < ((List.length [(⟨#[]⟩ : ByteArray), (⟨#[100, 101, 118, 105, 99, 101]⟩ : ByteArray), (⟨#[112, 111, 114, 116]⟩ : ByteArray), (⟨#[108, 105, 110, 107]⟩ : ByteArray), (⟨#[115, 116, 97, 116, 105, 99]⟩ : ByteArray), (⟨#[118, 116, 101, 112]⟩ : ByteArray), (⟨#[118, 110, 105]⟩ : ByteArray), (⟨#[102, 108, 111, 111, 100]⟩ : ByteArray), (⟨#[118, 114, 102]⟩ : ByteArray), (⟨#[105, 114, 98]⟩ : ByteArray)]) : Int))) = true then
    if (lin [(⟨#[]⟩ : ByteArray), (⟨#[100, 101, 118, 105, 99, 101]⟩ : ByteArray), (⟨#[112, 111, 114, 116]⟩ : ByteArray), (⟨#[108, 105, 110, 107]⟩ : ByteArray), (⟨#[115, 116, 97, 116, 105, 99]⟩ : ByteArray), (⟨#[118, 116, 101, 112]⟩ : ByteArray), (⟨#[118, 110, 105]⟩ : ByteArray), (⟨#[102, 108, 111, 111, 100]⟩ : ByteArray), (⟨#[118, 114, 102]⟩ : ByteArray), (⟨#[105, 114, 98]⟩ : ByteArray)] v2) = true then
      ([(⟨#[]⟩ : ByteArray), (⟨#[100, 101, 118, 105, 99, 101]⟩ : ByteArray), (⟨#[112, 111, 114, 116]⟩ : ByteArray), (⟨#[108, 105, 110, 107]⟩ : ByteArray), (⟨#[115, 116, 97, 116, 105, 99]⟩ : ByteArray), (⟨#[118, 116, 101, 112]⟩ : ByteArray), (⟨#[118, 110, 105]⟩ : ByteArray), (⟨#[102, 108, 111, 111, 100]⟩ : ByteArray), (⟨#[118, 114, 102]⟩ : ByteArray), (⟨#[105, 114, 98]⟩ : ByteArray)][(Int.toNat v2)]?).bind fun x5 =>
      if (seqB x5 a1) = true then
        some (Sum.inr (Sum.inl v2))
      else
        some (Sum.inl (wr_i64 (v2 + 1)))
    else
      none
  else
    some (Sum.inr (Sum.inr ()))

def palingref11_kind (a1 : ByteArray) : Option (Int) :=
  (loopM (palingref11_kind_L1 a1) 1).bind fun r11 => match r11 with
  | Sum.inl v9 =>
    some v9
  | Sum.inr () =>
    some 0

def palingref03_Name_L1 (a1 : ByteArray) (v7 : Int) : Option ((Int) ⊕ (Unit ⊕ Unit)) :=
  if (decide (v7 < (a1.size : Int))) = true then
    if (decide (0 ≤ (v7 : Int) ∧ (v7 : Int) < (a1.size : Int))) = true then
      if (decide ((byteAt a1 v7) < 97)) = true then
        if (decide ((byteAt a1 v7) < 48)) = true then
          some (Sum.inr (Sum.inl ()))
        else
          if (decide ((byteAt a1 v7) > 57)) = true then
            some (Sum.inr (Sum.inl ()))
          else
            some (Sum.inl (wr_i64 (v7 + 1)))
      else
        if (decide ((byteAt a1 v7) > 122)) = true then
          if (decide ((byteAt a1 v7) < 48)) = true then
            some (Sum.inr (Sum.inl ()))
          else
            if (decide ((byteAt a1 v7) > 57)) = true then
              some (Sum.inr (Sum.inl ()))
            else
              some (Sum.inl (wr_i64 (v7 + 1)))
        else
          some (Sum.inl (wr_i64 (v7 + 1)))
    else
      none
  else
    some (Sum.inr (Sum.inr ()))

def palingref03_Name (a1 : ByteArray) : Option (Bool) :=
  if (decide ((a1.size : Int) < 1)) = true then
    some false
  else
    if (decide ((a1.size : Int) > 12)) = true then
      some false
    else
      if (decide (0 ≤ (0 : Int) ∧ (0 : Int) < (a1.size : Int))) = true then
        if (decide ((byteAt a1 0) < 97)) = true then
          some false
        else
          if (decide ((byteAt a1 0) > 122)) = true then
            some false
          else
            (loopM (palingref03_Name_L1 a1) 0).bind fun r17 => match r17 with
            | Sum.inl () =>
              some false
            | Sum.inr () =>
              some true
      else
        none

def palingref11_name_own_J1 (a1 : ByteArray) (a2 : Int) (a3 : Int) (a4 : Int) (a5 : ByteArray) (a6 : ByteArray) (a7 : ByteArray) (a8 : ByteArray) (a9 : ByteArray) (a10 : Int) (a11 : Int) (a12 : Int) (a13 : Int) (a14 : Int) (a15 : Int) (a16 : List Int) (a17 : List Int) (a18 : List Int) (a19 : List Int) : Option (ByteArray) :=
  if (a2 == 1) = true then
    some a1
  else
    some a6

def palingref11_name_own (a1 : ByteArray) (a2 : Int) (a3 : Int) (a4 : Int) (a5 : ByteArray) (a6 : ByteArray) (a7 : ByteArray) (a8 : ByteArray) (a9 : ByteArray) (a10 : Int) (a11 : Int) (a12 : Int) (a13 : Int) (a14 : Int) (a15 : Int) (a16 : List Int) (a17 : List Int) (a18 : List Int) (a19 : List Int) : Option ((ByteArray × ByteArray × ByteArray × ByteArray × ByteArray)) :=
  if (a2 == 0) = true then
    some (a1, a6, a7, a8, a9)
  else
    if (a4 == 8) = true then
      some (a5, a6, a7, a8, a1)
    else
      if (a4 == 9) = true then
        some (a5, a6, a7, a8, a1)
      else
        (palingref11_name_own_J1 a1 a2 a3 a4 a5 a6 a7 a8 a9 a10 a11 a12 a13 a14 a15 a16 a17 a18 a19).bind fun r29 => match r29 with
        | v27 =>
          if (a2 == 2) = true then
            if (a2 == 3) = true then
              some (a5, v27, a1, a1, a9)
            else
              some (a5, v27, a1, a8, a9)
          else
            if (a2 == 3) = true then
              some (a5, v27, a7, a1, a9)
            else
              some (a5, v27, a7, a8, a9)

def palingref03_Read_J1 (a1 : ByteArray) (a2 : Int) (a3 : Int) : Option (Int) :=
  if (decide ((a1.size : Int) > 0)) = true then
    if (decide (0 ≤ (0 : Int) ∧ (0 : Int) < (a1.size : Int))) = true then
      if ((byteAt a1 0) == 45) = true then
        some 1
      else
        some 0
    else
      none
  else
    some 0

def palingref03_Read_L2 (a1 : ByteArray) (a2 : Int) (a3 : Int) (v8 : Int) (v13 : Int) (v14 : Int) : Option ((Int × Int) ⊕ (Unit ⊕ Int)) :=
  if (decide (v14 < (a1.size : Int))) = true then
    if (decide (0 ≤ (v14 : Int) ∧ (v14 : Int) < (a1.size : Int))) = true then
      if (decide ((byteAt a1 v14) < 48)) = true then
        some (Sum.inr (Sum.inl ()))
      else
        if (decide ((byteAt a1 v14) > 57)) = true then
          some (Sum.inr (Sum.inl ()))
        else
          some (Sum.inl (wr_i64 ((wr_i64 ((wr_i64 (v13 * 10)) + (wr_i64 (byteAt a1 v14)))) - 48), wr_i64 (v14 + 1)))
    else
      none
  else
    some (Sum.inr (Sum.inr v13))

def palingref03_Read_J3 (a1 : ByteArray) (a2 : Int) (a3 : Int) (v8 : Int) (v20 : Int) : Option (Int) :=
  if (v8 == 1) = true then
    some (wr_i64 (0 - v20))
  else
    some v20

def palingref03_Read (a1 : ByteArray) (a2 : Int) (a3 : Int) : Option (Int × Bool) :=
  (palingref03_Read_J1 a1 a2 a3).bind fun r10 => match r10 with
  | v8 =>
    if (decide ((wr_i64 ((a1.size : Int) - v8)) < 1)) = true then
      some (0, false)
    else
      if (decide ((wr_i64 ((a1.size : Int) - v8)) > 10)) = true then
        some (0, false)
      else
        (loopM (fun s : Int × Int => match s with | (v13, v14) => palingref03_Read_L2 a1 a2 a3 v8 v13 v14) (0, v8)).bind fun r22 => match r22 with
        | Sum.inl () =>
          some (0, false)
        | Sum.inr v20 =>
          (palingref03_Read_J3 a1 a2 a3 v8 v20).bind fun r27 => match r27 with
          | v25 =>
            if (decide (v25 < a2)) = true then
              some (0, false)
            else
              if (decide (v25 > a3)) = true then
                some (0, false)
              else
                (palingref03_Text v25).bind fun r30 =>
                if (!(seqB r30 a1)) = true then
                  some (0, false)
                else
                  some (v25, true)

def palingref01_Read_J2 (a1 : ByteArray) (v3 : Int) (v4 : Int) : Option (Int) :=
  if (decide (0 ≤ (v4 : Int) ∧ (v4 : Int) < (a1.size : Int))) = true then
    if (decide ((byteAt a1 v4) ≥ 48)) = true then
      if (decide ((byteAt a1 v4) ≤ 57)) = true then
        some (wr_u64 ((wr_u64 (byteAt a1 v4)) - 48))
      else
        some 0
    else
      some 0
  else
    none

def palingref01_Read_L1 (a1 : ByteArray) (v3 : Int) (v4 : Int) : Option ((Int × Int) ⊕ (Int)) :=
  if (decide (v4 < 17)) = true then
    (palingref01_Read_J2 a1 v3 v4).bind fun r12 => match r12 with
    | v10 =>
      if (decide (0 ≤ (v4 : Int) ∧ (v4 : Int) < (a1.size : Int))) = true then
        if (decide ((byteAt a1 v4) ≥ 97)) = true then
          if (decide ((byteAt a1 v4) ≤ 102)) = true then
            if ((Int.tmod v4 3) != 2) = true then
              some (Sum.inl (wr_u64 ((wr_u64 (v3 * 16)) + (wr_u64 ((wr_u64 (byteAt a1 v4)) - 87))), wr_i64 (v4 + 1)))
            else
              some (Sum.inl (v3, wr_i64 (v4 + 1)))
          else
            if ((Int.tmod v4 3) != 2) = true then
              some (Sum.inl (wr_u64 ((wr_u64 (v3 * 16)) + v10), wr_i64 (v4 + 1)))
            else
              some (Sum.inl (v3, wr_i64 (v4 + 1)))
        else
          if ((Int.tmod v4 3) != 2) = true then
            some (Sum.inl (wr_u64 ((wr_u64 (v3 * 16)) + v10), wr_i64 (v4 + 1)))
          else
            some (Sum.inl (v3, wr_i64 (v4 + 1)))
      else
        none
  else
    some (Sum.inr v3)

def palingref01_Read (a1 : ByteArray) : Option (Int × Bool) :=
  if ((a1.size : Int) != 17) = true then
    some (0, false)
  else
    (loopM (fun s : Int × Int => match s with | (v3, v4) => palingref01_Read_L1 a1 v3 v4) (0, 0)).bind fun r22 => match r22 with
    | v20 =>
      (palingref01_Text v20).bind fun r23 =>
      if (!(seqB r23 a1)) = true then
        some (0, false)
      else
        some (v20, true)

def palingref01_number_L1 (a1 : List Int) (v2 : Int) (v3 : Int) : Option ((Int × Int) ⊕ (Int)) :=
  if (decide (v3 < (a1.length : Int))) = true then
    (nth a1 v3).bind fun x5 =>
    some (Sum.inl (wr_u64 ((wr_u64 (v2 * 256)) + (wr_u64 x5)), wr_i64 (v3 + 1)))
  else
    some (Sum.inr v2)

def palingref01_number (a1 : List Int) : Option (Int) :=
  (loopM (fun s : Int × Int => match s with | (v2, v3) => palingref01_number_L1 a1 v2 v3) (0, 0)).bind fun r10 => match r10 with
  | v8 =>
    some v8

def palingref01_IsHost (a1 : Int) : Option (Int × Bool) :=
  (palingref01_Bytes a1).bind fun r2 => match r2 with
  | l4 =>
    if (lin l4 0) = true then
      (l4[(Int.toNat 0)]?).bind fun x6 =>
      if (x6 != 2) = true then
        some (0, false)
      else
        if (lin l4 1) = true then
          (l4[(Int.toNat 1)]?).bind fun x10 =>
          if (x10 != 0) = true then
            some (0, false)
          else
            if (slok (List.length l4) 2 ((List.length l4) : Int)) = true then
              (palingref01_number (List.drop (Int.toNat 2) (List.take (Int.toNat ((List.length l4) : Int)) l4))).bind fun r14 =>
              some (wr_u32 r14, true)
            else
              none
        else
          none
    else
      none

def palingref01_Group (a1 : Int) : Option (Bool) :=
  (palingref01_Bytes a1).bind fun r2 => match r2 with
  | l4 =>
    if (lin l4 0) = true then
      (l4[(Int.toNat 0)]?).bind fun x6 =>
      some ((Int.tmod x6 2) == 1)
    else
      none

def palingref11_Station (a1 : Int) : Option (Bool) :=
  (palingref01_IsHost a1).bind fun r2 =>
  if (decide (a1 < 281474976710656)) = true then
    if (!r2.2) = true then
      (palingref01_Group a1).bind fun r6 =>
      some (!r6)
    else
      some false
  else
    some false

def palingref03_Split_L1 (a1 : ByteArray) (l2 : List ByteArray) (n3 : Nat) (v4 : Int) : Option (((List ByteArray) × Nat × Int) ⊕ (((List ByteArray) × Nat))) :=
  if (decide (v4 < (a1.size : Int))) = true then
    if (decide (0 ≤ (v4 : Int) ∧ (v4 : Int) < (a1.size : Int))) = true then
      if ((byteAt a1 v4) == 44) = true then
        if (roomy 16 (l2 ++ [(⟨#[]⟩ : ByteArray)])) = true then
          some (Sum.inl (l2 ++ [(⟨#[]⟩ : ByteArray)], (List.length (l2 ++ [(⟨#[]⟩ : ByteArray)])), wr_i64 (v4 + 1)))
        else
          none
      else
        if (lin l2 (wr_i64 ((n3 : Int) - 1))) = true then
          (l2[(Int.toNat (wr_i64 ((n3 : Int) - 1)))]?).bind fun x10 =>
          if (slok (a1.size) v4 (wr_i64 (v4 + 1))) = true then
            if (sadok x10 (ByteArray.extract a1 (Int.toNat v4) (Int.toNat (wr_i64 (v4 + 1))))) = true then
              (l2[(Int.toNat (wr_i64 ((n3 : Int) - 1)))]?).bind fun x14 =>
              some (Sum.inl (List.set l2 (Int.toNat (wr_i64 ((n3 : Int) - 1))) (x10 ++ (ByteArray.extract a1 (Int.toNat v4) (Int.toNat (wr_i64 (v4 + 1))))), n3, wr_i64 (v4 + 1)))
            else
              none
          else
            none
        else
          none
    else
      none
  else
    some (Sum.inr (l2, n3))

def palingref03_Split (a1 : ByteArray) : Option (((List ByteArray) × Nat)) :=
  (loopM (fun s : (List ByteArray) × Nat × Int => match s with | (l2, n3, v4) => palingref03_Split_L1 a1 l2 n3 v4) ([(⟨#[]⟩ : ByteArray)], (List.length [(⟨#[]⟩ : ByteArray)]), 0)).bind fun r23 => match r23 with
  | (l20, n21) =>
    some (l20, n21)

def palingref03_ReadList_L1 (a2 : Int) (a3 : Int) (l6 : List ByteArray) (n7 : Nat) (l8 : List Int) (v9 : Int) : Option (((List Int) × Int) ⊕ (Unit ⊕ (List Int))) :=
  if (decide (v9 < (n7 : Int))) = true then
    if (lin l6 v9) = true then
      (l6[(Int.toNat v9)]?).bind fun x12 =>
      (palingref03_Read x12 a2 a3).bind fun r14 =>
      if (!r14.2) = true then
        some (Sum.inr (Sum.inl ()))
      else
        if (roomy 8 (l8 ++ [r14.1])) = true then
          some (Sum.inl (l8 ++ [r14.1], wr_i64 (v9 + 1)))
        else
          none
    else
      none
  else
    some (Sum.inr (Sum.inr l8))

def palingref03_ReadList (a1 : ByteArray) (a2 : Int) (a3 : Int) : Option (((List Int) × Bool)) :=
  (palingref03_Split a1).bind fun r4 => match r4 with
  | (l6, n7) =>
    (loopM (fun s : (List Int) × Int => match s with | (l8, v9) => palingref03_ReadList_L1 a2 a3 l6 n7 l8 v9) ([], 0)).bind fun r25 => match r25 with
    | Sum.inl () =>
      some ([], false)
    | Sum.inr l23 =>
      (palingref03_Rising l23 a2 a3).bind fun r26 =>
      if (!r26) = true then
        some ([], false)
      else
        some (l23, true)

def palingref11_list (a1 : ByteArray) (a2 : Int) : Option (((List Int) × Bool)) :=
  if (seqB a1 (⟨#[45]⟩ : ByteArray)) = true then
    some ([], true)
  else
    (palingref03_ReadList a1 1 a2).bind fun r4 => match r4 with
    | (l6, v7) =>
      some (l6, v7)

def palingref02_digits_L1 (a1 : ByteArray) (v4 : Int) (v5 : Int) : Option ((Int × Int) ⊕ (Unit ⊕ Int)) :=
  if (decide (v5 < (a1.size : Int))) = true then
    if (decide (0 ≤ (v5 : Int) ∧ (v5 : Int) < (a1.size : Int))) = true then
      if (decide ((byteAt a1 v5) < 48)) = true then
        some (Sum.inr (Sum.inl ()))
      else
        if (decide ((byteAt a1 v5) > 57)) = true then
          some (Sum.inr (Sum.inl ()))
        else
          some (Sum.inl (wr_i64 ((wr_i64 ((wr_i64 (v4 * 10)) + (wr_i64 (byteAt a1 v5)))) - 48), wr_i64 (v5 + 1)))
    else
      none
  else
    some (Sum.inr (Sum.inr v4))

def palingref02_digits (a1 : ByteArray) : Option (Int) :=
  if ((a1.size : Int) == 0) = true then
    some 1000
  else
    if (decide ((a1.size : Int) > 3)) = true then
      some 1000
    else
      (loopM (fun s : Int × Int => match s with | (v4, v5) => palingref02_digits_L1 a1 v4 v5) (0, 0)).bind fun r13 => match r13 with
      | Sum.inl () =>
        some 1000
      | Sum.inr v11 =>
        (palingref02_number v11).bind fun r14 =>
        if (!(seqB r14 a1)) = true then
          some 1000
        else
          some v11

def palingref02_Read_J2 (a1 : ByteArray) (v2 : Int) (v3 : Int) (v4 : ByteArray) (v5 : Int) : Option (Bool) :=
  if (decide (v5 < (a1.size : Int))) = true then
    if (decide (0 ≤ (v5 : Int) ∧ (v5 : Int) < (a1.size : Int))) = true then
      some ((byteAt a1 v5) != 46)
    else
      none
  else
    some false

def palingref02_Read_L1 (a1 : ByteArray) (v2 : Int) (v3 : Int) (v4 : ByteArray) (v5 : Int) : Option ((Int × Int × ByteArray × Int) ⊕ (Unit ⊕ (Int × Int))) :=
  if (decide (v5 ≤ (a1.size : Int))) = true then
    (palingref02_Read_J2 a1 v2 v3 v4 v5).bind fun r12 => match r12 with
    | v10 =>
      if (v10) = true then
        if (slok (a1.size) v5 (wr_i64 (v5 + 1))) = true then
          if (sadok v4 (ByteArray.extract a1 (Int.toNat v5) (Int.toNat (wr_i64 (v5 + 1))))) = true then
            if (decide (((v4 ++ (ByteArray.extract a1 (Int.toNat v5) (Int.toNat (wr_i64 (v5 + 1))))).size : Int) > 3)) = true then
              some (Sum.inr (Sum.inl ()))
            else
              some (Sum.inl (v2, v3, v4 ++ (ByteArray.extract a1 (Int.toNat v5) (Int.toNat (wr_i64 (v5 + 1)))), wr_i64 (v5 + 1)))
          else
            none
        else
          none
      else
        (palingref02_digits v4).bind fun r17 =>
        if (decide (r17 > 255)) = true then
          some (Sum.inr (Sum.inl ()))
        else
          if (decide (v3 > 3)) = true then
            some (Sum.inr (Sum.inl ()))
          else
            (palingref02_digits v4).bind fun r21 =>
            some (Sum.inl (wr_i64 ((wr_i64 (v2 * 256)) + r21), wr_i64 (v3 + 1), (⟨#[]⟩ : ByteArray), wr_i64 (v5 + 1)))
  else
    some (Sum.inr (Sum.inr (v2, v3)))

def palingref02_Read (a1 : ByteArray) : Option (Int × Bool) :=
  (loopM (fun s : Int × Int × ByteArray × Int => match s with | (v2, v3, v4, v5) => palingref02_Read_L1 a1 v2 v3 v4 v5) (0, 0, (⟨#[]⟩ : ByteArray), 0)).bind fun r28 => match r28 with
  | Sum.inl () =>
    some (0, false)
  | Sum.inr (v25, v26) =>
    if (v26 != 4) = true then
      some (0, false)
    else
      some (wr_u32 v25, true)

def palingref03_ReadAddrs_L1 (l4 : List ByteArray) (n5 : Nat) (l6 : List Int) (v7 : Int) : Option (((List Int) × Int) ⊕ (Unit ⊕ (List Int))) :=
  if (decide (v7 < (n5 : Int))) = true then
    if (lin l4 v7) = true then
      (l4[(Int.toNat v7)]?).bind fun x10 =>
      (palingref02_Read x10).bind fun r12 =>
      if (!r12.2) = true then
        some (Sum.inr (Sum.inl ()))
      else
        if (decide (v7 ≥ 16)) = true then
          some (Sum.inr (Sum.inl ()))
        else
          if (decide (v7 > 0)) = true then
            if (lin l6 (wr_i64 (v7 - 1))) = true then
              (l6[(Int.toNat (wr_i64 (v7 - 1)))]?).bind fun x18 =>
              if (decide (x18 ≥ r12.1)) = true then
                some (Sum.inr (Sum.inl ()))
              else
                if (roomy 4 (l6 ++ [r12.1])) = true then
                  some (Sum.inl (l6 ++ [r12.1], wr_i64 (v7 + 1)))
                else
                  none
            else
              none
          else
            if (roomy 4 (l6 ++ [r12.1])) = true then
              some (Sum.inl (l6 ++ [r12.1], wr_i64 (v7 + 1)))
            else
              none
    else
      none
  else
    some (Sum.inr (Sum.inr l6))

def palingref03_ReadAddrs (a1 : ByteArray) : Option (((List Int) × Bool)) :=
  (palingref03_Split a1).bind fun r2 => match r2 with
  | (l4, n5) =>
    (loopM (fun s : (List Int) × Int => match s with | (l6, v7) => palingref03_ReadAddrs_L1 l4 n5 l6 v7) ([], 0)).bind fun r28 => match r28 with
    | Sum.inl () =>
      some ([], false)
    | Sum.inr l26 =>
      some (l26, true)

def palingref02_ReadPrefix_L1 (a1 : ByteArray) (v2 : Int) : Option ((Int) ⊕ (Int)) :=
  if (decide (v2 < (a1.size : Int))) = true then
    if (decide (0 ≤ (v2 : Int) ∧ (v2 : Int) < (a1.size : Int))) = true then
      if ((byteAt a1 v2) != 47) = true then
        some (Sum.inl (wr_i64 (v2 + 1)))
      else
        some (Sum.inr v2)
    else
      none
  else
    some (Sum.inr v2)

def palingref02_ReadPrefix (a1 : ByteArray) : Option (Api_Prefix × Bool) :=
  (loopM (palingref02_ReadPrefix_L1 a1) 0).bind fun r9 => match r9 with
  | v7 =>
    if (v7 == (a1.size : Int)) = true then
      some ((⟨0, 0⟩ : Api_Prefix), false)
    else
      if (slok (a1.size) 0 v7) = true then
        (palingref02_Read (ByteArray.extract a1 (Int.toNat 0) (Int.toNat v7))).bind fun r12 =>
        if (slok (a1.size) (wr_i64 (v7 + 1)) (a1.size : Int)) = true then
          (palingref02_digits (ByteArray.extract a1 (Int.toNat (wr_i64 (v7 + 1))) (Int.toNat (a1.size : Int)))).bind fun r15 =>
          if (!r12.2) = true then
            some ((⟨0, 0⟩ : Api_Prefix), false)
          else
            if (decide (r15 > 32)) = true then
              some ((⟨0, 0⟩ : Api_Prefix), false)
            else
              some ((⟨r12.1, r15⟩ : Api_Prefix), true)
        else
          none
      else
        none

def palingref02_size_L1 (v2 : Int) (v3 : Int) : Option ((Int × Int) ⊕ (Int)) :=
  if (decide (v3 < 32)) = true then
    some (Sum.inl (wr_i64 (v2 * 2), wr_i64 (v3 + 1)))
  else
    some (Sum.inr v2)

def palingref02_size (a1 : Api_Prefix) : Option (Int) :=
  (loopM (fun s : Int × Int => match s with | (v2, v3) => palingref02_size_L1 v2 v3) (1, a1.bits)).bind fun r8 => match r8 with
  | v6 =>
    some v6

def palingref02_First (a1 : Api_Prefix) : Option (Int) :=
  (palingref02_Right a1).bind fun r2 =>
  if (!r2) = true then
    some 0
  else
    (palingref02_size a1).bind fun r5 =>
    if (r5 != 0) = true then
      (palingref02_size a1).bind fun r8 =>
      some (wr_u32 (wr_i64 ((wr_i64 (Int.tdiv (wr_i64 a1.addr) r5)) * r8)))
    else
      none

def palingref02_Last (a1 : Api_Prefix) : Option (Int) :=
  (palingref02_Right a1).bind fun r2 =>
  if (!r2) = true then
    some 0
  else
    (palingref02_First a1).bind fun r5 =>
    (palingref02_size a1).bind fun r7 =>
    some (wr_u32 (wr_i64 ((wr_i64 ((wr_i64 r5) + r7)) - 1)))

def palingref11_Subnet (a1 : Api_Prefix) : Option (Bool) :=
  if (decide (a1.bits ≥ 1)) = true then
    if (decide (a1.bits ≤ 30)) = true then
      (palingref02_First a1).bind fun r4 =>
      if (a1.addr != r4) = true then
        (palingref02_Last a1).bind fun r7 =>
        some (a1.addr != r7)
      else
        some false
    else
      some false
  else
    some false

def palingref11_word_own (a1 : Int) (a2 : ByteArray) (a3 : Int) (a4 : Int) (a5 : Int) (a6 : ByteArray) (a7 : ByteArray) (a8 : ByteArray) (a9 : ByteArray) (a10 : ByteArray) (a11 : Int) (a12 : Int) (a13 : Int) (a14 : Int) (a15 : Int) (a16 : Int) (a17 : List Int) (a18 : List Int) (a19 : List Int) (a20 : List Int) : Option ((ByteArray × ByteArray × ByteArray × ByteArray × ByteArray × Int × Int × Int × Int × Int × Int × Int) ⊕ ((List Int) × Int) ⊕ ((List Int) × Int) ⊕ ((List Int) × Int)) :=
  if (a1 == 78) = true then
    (palingref03_Name a2).bind fun r22 =>
    if (!r22) = true then
      some (Sum.inl (a6, a7, a8, a9, a10, a11, a12, a13, a14, a15, a16, 20))
    else
      (palingref11_name_own a2 a3 a4 a5 a6 a7 a8 a9 a10 a11 a12 a13 a14 a15 a16 a17 a18 a19 a20).bind fun r25 => match r25 with
      | (v27, v28, v29, v30, v31) =>
        some (Sum.inl (v27, v28, v29, v30, v31, a11, a12, a13, a14, a15, a16, 0))
  else
    if (a1 == 75) = true then
      if (!(seqB a2 (⟨#[97, 99, 99, 101, 115, 115]⟩ : ByteArray))) = true then
        if (!(seqB a2 (⟨#[116, 114, 117, 110, 107]⟩ : ByteArray))) = true then
          some (Sum.inl (a6, a7, a8, a9, a10, a11, a12, a13, a14, a15, a16, 20))
        else
          some (Sum.inl (a6, a7, a8, a9, a10, a11, a12, a13, a14, a15, a16, 0))
      else
        some (Sum.inl (a6, a7, a8, a9, a10, a11, a12, a13, a14, a15, a16, 0))
    else
      if (a1 == 80) = true then
        (palingref03_Read a2 0 65535).bind fun r36 =>
        if (!r36.2) = true then
          some (Sum.inl (a6, a7, a8, a9, a10, a11, a12, a13, a14, r36.1, a16, 21))
        else
          some (Sum.inl (a6, a7, a8, a9, a10, a11, a12, a13, a14, r36.1, a16, 0))
      else
        if (a1 == 67) = true then
          (palingref03_Read a2 1 65535).bind fun r40 =>
          if (!r40.2) = true then
            some (Sum.inl (a6, a7, a8, a9, a10, a11, a12, a13, a14, a15, r40.1, 21))
          else
            some (Sum.inl (a6, a7, a8, a9, a10, a11, a12, a13, a14, a15, r40.1, 0))
        else
          if (a1 == 77) = true then
            (palingref01_Read a2).bind fun r44 =>
            if (r44.2) = true then
              (palingref11_Station r44.1).bind fun r47 =>
              if (!r47) = true then
                some (Sum.inl (a6, a7, a8, a9, a10, r44.1, a12, a13, a14, a15, a16, 21))
              else
                some (Sum.inl (a6, a7, a8, a9, a10, r44.1, a12, a13, a14, a15, a16, 0))
            else
              some (Sum.inl (a6, a7, a8, a9, a10, r44.1, a12, a13, a14, a15, a16, 21))
          else
            if (a1 == 86) = true then
              (palingref03_Read a2 1 4094).bind fun r51 =>
              if (!r51.2) = true then
                some (Sum.inl (a6, a7, a8, a9, a10, a11, a12, a13, r51.1, a15, a16, 21))
              else
                some (Sum.inl (a6, a7, a8, a9, a10, a11, a12, a13, r51.1, a15, a16, 0))
            else
              if (a1 == 87) = true then
                (palingref03_Read a2 1 4094).bind fun r55 =>
                if (r55.2) = true then
                  some (Sum.inl (a6, a7, a8, a9, a10, a11, a12, a13, r55.1, a15, a16, 0))
                else
                  if (!(seqB a2 (⟨#[45]⟩ : ByteArray))) = true then
                    some (Sum.inl (a6, a7, a8, a9, a10, a11, a12, a13, r55.1, a15, a16, 21))
                  else
                    some (Sum.inl (a6, a7, a8, a9, a10, a11, a12, a13, r55.1, a15, a16, 0))
              else
                if (a1 == 84) = true then
                  (palingref11_list a2 4094).bind fun r60 => match r60 with
                  | (l62, v63) =>
                    if (!v63) = true then
                      some (Sum.inr (Sum.inl (l62, 21)))
                    else
                      some (Sum.inr (Sum.inl (l62, 0)))
                else
                  if (a1 == 73) = true then
                    (palingref03_Read a2 1 16777215).bind fun r66 =>
                    if (!r66.2) = true then
                      some (Sum.inl (a6, a7, a8, a9, a10, a11, a12, a13, a14, r66.1, a16, 21))
                    else
                      some (Sum.inl (a6, a7, a8, a9, a10, a11, a12, a13, a14, r66.1, a16, 0))
                  else
                    if (a1 == 65) = true then
                      (palingref02_Read a2).bind fun r70 =>
                      if (r70.2) = true then
                        if (!(decide (r70.1 > 0))) = true then
                          some (Sum.inl (a6, a7, a8, a9, a10, a11, r70.1, a13, a14, a15, a16, 21))
                        else
                          some (Sum.inl (a6, a7, a8, a9, a10, a11, r70.1, a13, a14, a15, a16, 0))
                      else
                        some (Sum.inl (a6, a7, a8, a9, a10, a11, r70.1, a13, a14, a15, a16, 21))
                    else
                      if (a1 == 76) = true then
                        (palingref03_ReadAddrs a2).bind fun r75 => match r75 with
                        | (l77, v78) =>
                          if (v78) = true then
                            if (lin l77 0) = true then
                              (l77[(Int.toNat 0)]?).bind fun x81 =>
                              if (!(decide (x81 > 0))) = true then
                                some (Sum.inr (Sum.inr (Sum.inl (l77, 21))))
                              else
                                some (Sum.inr (Sum.inr (Sum.inl (l77, 0))))
                            else
                              none
                          else
                            some (Sum.inr (Sum.inr (Sum.inl (l77, 21))))
                      else
                        if (a1 == 82) = true then
                          (palingref11_list a2 65535).bind fun r85 => match r85 with
                          | (l87, v88) =>
                            if (!v88) = true then
                              some (Sum.inr (Sum.inr (Sum.inr (l87, 21))))
                            else
                              some (Sum.inr (Sum.inr (Sum.inr (l87, 0))))
                        else
                          if (a1 == 83) = true then
                            (palingref02_ReadPrefix a2).bind fun r91 =>
                            if (r91.2) = true then
                              (palingref11_Subnet (⟨r91.1.addr, r91.1.bits⟩ : Api_Prefix)).bind fun r94 =>
                              if (!r94) = true then
                                some (Sum.inl (a6, a7, a8, a9, a10, a11, r91.1.addr, r91.1.bits, a14, a15, a16, 21))
                              else
                                some (Sum.inl (a6, a7, a8, a9, a10, a11, r91.1.addr, r91.1.bits, a14, a15, a16, 0))
                            else
                              some (Sum.inl (a6, a7, a8, a9, a10, a11, r91.1.addr, r91.1.bits, a14, a15, a16, 21))
                          else
                            some (Sum.inl (a6, a7, a8, a9, a10, a11, a12, a13, a14, a15, a16, 21))

def palingref11_members_L1 (a1 : Api_Line) (v2 : Int) : Option ((Int) ⊕ (Unit ⊕ Unit)) :=
  if (decide (v2 < (a1.tagged.length : Int))) = true then
    (nth a1.tagged v2).bind fun x4 =>
    if (x4 == a1.vlan) = true then
      some (Sum.inr (Sum.inl ()))
    else
      some (Sum.inl (wr_i64 (v2 + 1)))
  else
    some (Sum.inr (Sum.inr ()))

def palingref11_members (a1 : Api_Line) : Option (Bool) :=
  (loopM (palingref11_members_L1 a1) 0).bind fun r8 => match r8 with
  | Sum.inl () =>
    some false
  | Sum.inr () =>
    if (decide (a1.vlan > 0)) = true then
      some true
    else
      some (decide ((a1.tagged.length : Int) > 0))

def palingref11_Read_J2 (a1 : List ByteArray) (a2 : Int) (r3 : ByteArray) : Option (Bool) :=
  if (seqB r3 (⟨#[]⟩ : ByteArray)) = true then
    some true
  else
    some ((a1.length : Int) != (wr_i64 ((r3.size : Int) + 1)))

def palingref11_Read_J1 (a1 : List ByteArray) (a2 : Int) (r3 : ByteArray) : Option (ByteArray ⊕ Unit) :=
  (palingref11_Read_J2 a1 a2 r3).bind fun r9 => match r9 with
  | v7 =>
    if (v7) = true then
      if (decide ((a1.length : Int) > 4)) = true then
        (nth a1 0).bind fun x12 =>
        if (seqB x12 (⟨#[112, 111, 114, 116]⟩ : ByteArray)) = true then
          if (decide ((a1.length : Int) ≤ 7)) = true then
            if (decide ((a1.length : Int) ≥ 6)) = true then
              (nth a1 4).bind fun x17 =>
              if (!(seqB x17 (⟨#[97, 99, 99, 101, 115, 115]⟩ : ByteArray))) = true then
                (nth a1 4).bind fun x20 =>
                if (!(seqB x20 (⟨#[116, 114, 117, 110, 107]⟩ : ByteArray))) = true then
                  some (Sum.inl (⟨#[78, 78, 67, 75]⟩ : ByteArray))
                else
                  some (Sum.inr ())
              else
                some (Sum.inr ())
            else
              some (Sum.inr ())
          else
            some (Sum.inr ())
        else
          some (Sum.inr ())
      else
        some (Sum.inr ())
    else
      some (Sum.inl r3)

def palingref11_Read_J4 (a1 : List ByteArray) (a2 : Int) (v24 : ByteArray) (r29 : Int) (l31 : List Int) (l32 : List Int) (l33 : List Int) (v34 : ByteArray) (v35 : ByteArray) (v36 : ByteArray) (v37 : ByteArray) (v38 : ByteArray) (v39 : Int) (v40 : Int) (v41 : Int) (v42 : Int) (v43 : Int) (v44 : Int) (v45 : Int) (v46 : Int) (l47 : List Int) : Option (((List Int) × (List Int) × (List Int) × (List Int) × ByteArray × ByteArray × ByteArray × ByteArray × ByteArray × Int × Int × Int × Int × Int × Int × Int)) :=
  if (decide (0 ≤ (v46 : Int) ∧ (v46 : Int) < (v24.size : Int))) = true then
    (nth a1 (wr_i64 (v46 + 1))).bind fun x50 =>
    (palingref11_word_own (byteAt v24 v46) x50 v45 a2 r29 v34 v35 v36 v37 v38 v39 v40 v41 v42 v43 v44 l31 l47 l32 l33).bind fun r52 => match r52 with
    | Sum.inl (v54, v55, v56, v57, v58, v59, v60, v61, v62, v63, v64, v65) =>
      some (l31, l47, l32, l33, v54, v55, v56, v57, v58, v59, v60, v61, v62, v63, v64, v65)
    | Sum.inr (Sum.inl (l66, v67)) =>
      some (l66, l47, l32, l33, v34, v35, v36, v37, v38, v39, v40, v41, v42, v43, v44, v67)
    | Sum.inr (Sum.inr (Sum.inl (l68, v69))) =>
      some (l31, l47, l32, l68, v34, v35, v36, v37, v38, v39, v40, v41, v42, v43, v44, v69)
    | Sum.inr (Sum.inr (Sum.inr (l70, v71))) =>
      some (l31, l32, l70, l33, v34, v35, v36, v37, v38, v39, v40, v41, v42, v43, v44, v71)
  else
    none

def palingref11_Read_L3 (a1 : List ByteArray) (a2 : Int) (v24 : ByteArray) (r29 : Int) (l31 : List Int) (l32 : List Int) (l33 : List Int) (v34 : ByteArray) (v35 : ByteArray) (v36 : ByteArray) (v37 : ByteArray) (v38 : ByteArray) (v39 : Int) (v40 : Int) (v41 : Int) (v42 : Int) (v43 : Int) (v44 : Int) (v45 : Int) (v46 : Int) (l47 : List Int) : Option (((List Int) × (List Int) × (List Int) × ByteArray × ByteArray × ByteArray × ByteArray × ByteArray × Int × Int × Int × Int × Int × Int × Int × Int × (List Int)) ⊕ (Int ⊕ ((List Int) × (List Int) × (List Int) × (List Int) × ByteArray × ByteArray × ByteArray × ByteArray × ByteArray × Int × Int × Int × Int × Int × Int))) :=
  if (decide (v46 < (v24.size : Int))) = true then
    (palingref11_Read_J4 a1 a2 v24 r29 l31 l32 l33 v34 v35 v36 v37 v38 v39 v40 v41 v42 v43 v44 v45 v46 l47).bind fun r210 => match r210 with
    | (l193, l194, l195, l196, v197, v198, v199, v200, v201, v202, v203, v204, v205, v206, v207, v208) =>
      if (v208 != 0) = true then
        some (Sum.inr (Sum.inl v208))
      else
        if (decide (0 ≤ (v46 : Int) ∧ (v46 : Int) < (v24.size : Int))) = true then
          if ((byteAt v24 v46) == 78) = true then
            some (Sum.inl (l193, l195, l196, v197, v198, v199, v200, v201, v202, v203, v204, v205, v206, v207, wr_i64 (v45 + 1), wr_i64 (v46 + 1), l194))
          else
            some (Sum.inl (l193, l195, l196, v197, v198, v199, v200, v201, v202, v203, v204, v205, v206, v207, v45, wr_i64 (v46 + 1), l194))
        else
          none
  else
    some (Sum.inr (Sum.inr (l31, l47, l32, l33, v34, v35, v36, v37, v38, v39, v40, v41, v42, v43, v44)))

def palingref11_Read (a1 : List ByteArray) (a2 : Int) : Option (((List Int) × (List Int) × (List Int) × (List Int) × Int × Int × ByteArray × ByteArray × ByteArray × ByteArray × ByteArray × Int × Int × Int × Int × Int × Int × Int)) :=
  (palingref11_form a1).bind fun r3 =>
  (palingref11_Read_J1 a1 a2 r3).bind fun r26 => match r26 with
  | Sum.inl v24 =>
    (nth a1 0).bind fun x27 =>
    (palingref11_kind x27).bind fun r29 =>
    (loopM (fun s : (List Int) × (List Int) × (List Int) × ByteArray × ByteArray × ByteArray × ByteArray × ByteArray × Int × Int × Int × Int × Int × Int × Int × Int × (List Int) => match s with | (l31, l32, l33, v34, v35, v36, v37, v38, v39, v40, v41, v42, v43, v44, v45, v46, l47) => palingref11_Read_L3 a1 a2 v24 r29 l31 l32 l33 v34 v35 v36 v37 v38 v39 v40 v41 v42 v43 v44 v45 v46 l47) ([], [], [], (⟨#[]⟩ : ByteArray), (⟨#[]⟩ : ByteArray), (⟨#[]⟩ : ByteArray), (⟨#[]⟩ : ByteArray), (⟨#[]⟩ : ByteArray), 0, 0, 0, 0, 0, 0, 0, 0, [])).bind fun r277 => match r277 with
    | Sum.inl v215 =>
      some ([], [], [], [], 0, 0, (⟨#[]⟩ : ByteArray), (⟨#[]⟩ : ByteArray), (⟨#[]⟩ : ByteArray), (⟨#[]⟩ : ByteArray), (⟨#[]⟩ : ByteArray), 0, 0, 0, 0, 0, 0, v215)
    | Sum.inr (l261, l262, l263, l264, v265, v266, v267, v268, v269, v270, v271, v272, v273, v274, v275) =>
      if (r29 == 2) = true then
        (palingref11_members (⟨a2, r29, v265, v266, v267, v268, v269, v270, v271, v272, v273, v274, v275, l261, l262, l263, l264⟩ : Api_Line)).bind fun r279 =>
        if (!r279) = true then
          some ([], [], [], [], 0, 0, (⟨#[]⟩ : ByteArray), (⟨#[]⟩ : ByteArray), (⟨#[]⟩ : ByteArray), (⟨#[]⟩ : ByteArray), (⟨#[]⟩ : ByteArray), 0, 0, 0, 0, 0, 0, 21)
        else
          some (l261, l262, l263, l264, a2, r29, v265, v266, v267, v268, v269, v270, v271, v272, v273, v274, v275, 0)
      else
        some (l261, l262, l263, l264, a2, r29, v265, v266, v267, v268, v269, v270, v271, v272, v273, v274, v275, 0)
  | Sum.inr () =>
    some ([], [], [], [], 0, 0, (⟨#[]⟩ : ByteArray), (⟨#[]⟩ : ByteArray), (⟨#[]⟩ : ByteArray), (⟨#[]⟩ : ByteArray), (⟨#[]⟩ : ByteArray), 0, 0, 0, 0, 0, 0, 22)

def palingref03_Addrs_L1 (a1 : List Int) (a2 : List Int) (v4 : Int) : Option ((Int) ⊕ (Unit ⊕ Unit)) :=
  if (decide (v4 < (a1.length : Int))) = true then
    (nth a1 v4).bind fun x6 =>
    (nth a2 v4).bind fun x8 =>
    if (x6 != x8) = true then
      some (Sum.inr (Sum.inl ()))
    else
      some (Sum.inl (wr_i64 (v4 + 1)))
  else
    some (Sum.inr (Sum.inr ()))

def palingref03_Addrs (a1 : List Int) (a2 : List Int) : Option (Bool) :=
  if ((a1.length : Int) != (a2.length : Int)) = true then
    some false
  else
    (loopM (palingref03_Addrs_L1 a1 a2) 0).bind fun r12 => match r12 with
    | Sum.inl () =>
      some false
    | Sum.inr () =>
      some true

def palingref11_Same (a1 : Api_Line) (a2 : Api_Line) : Option (Bool) :=
  if (a1.row == a2.row) = true then
    if (a1.kind == a2.kind) = true then
      if (seqB a1.dev a2.dev) = true then
        if (seqB a1.port a2.port) = true then
          if (seqB a1.peer a2.peer) = true then
            if (seqB a1.far a2.far) = true then
              if (seqB a1.name a2.name) = true then
                if (a1.mac == a2.mac) = true then
                  if (a1.addr == a2.addr) = true then
                    if (a1.bits == a2.bits) = true then
                      if (a1.vlan == a2.vlan) = true then
                        if (a1.num == a2.num) = true then
                          if (a1.cost == a2.cost) = true then
                            (palingref03_Ints a1.tagged a2.tagged).bind fun r16 =>
                            if (r16) = true then
                              (palingref03_Ints a1.imports a2.imports).bind fun r19 =>
                              if (r19) = true then
                                (palingref03_Ints a1.exports a2.exports).bind fun r22 =>
                                if (r22) = true then
                                  (palingref03_Addrs a1.addrs a2.addrs).bind fun r25 =>
                                  some r25
                                else
                                  some false
                              else
                                some false
                            else
                              some false
                          else
                            some false
                        else
                          some false
                      else
                        some false
                    else
                      some false
                  else
                    some false
                else
                  some false
              else
                some false
            else
              some false
          else
            some false
        else
          some false
      else
        some false
    else
      some false
  else
    some false

def palingref11_Right (a1 : Api_Line) : Option (Bool) :=
  if (decide ((a1.tagged.length : Int) > 16)) = true then
    some false
  else
    if (decide ((a1.imports.length : Int) > 16)) = true then
      some false
    else
      if (decide ((a1.exports.length : Int) > 16)) = true then
        some false
      else
        if (decide ((a1.addrs.length : Int) > 16)) = true then
          some false
        else
          (palingref11_Words a1).bind fun r6 => match r6 with
          | l8 =>
            (palingref11_Read l8 a1.row).bind fun r9 => match r9 with
            | (l11, l12, l13, l14, v15, v16, v17, v18, v19, v20, v21, v22, v23, v24, v25, v26, v27, v28) =>
              if (v28 == 0) = true then
                (palingref11_Same a1 (⟨v15, v16, v17, v18, v19, v20, v21, v22, v23, v24, v25, v26, v27, l11, l12, l13, l14⟩ : Api_Line)).bind fun r30 =>
                some r30
              else
                some false

def palingref16_Fits (a1 : Api_Net) (a2 : Api_Line) (a3 : Int) : Option (Bool) :=
  if (a2.kind == a3) = true then
    (palingref11_Right a2).bind fun r5 =>
    if (r5) = true then
      (palingref15_Right a1).bind fun r8 =>
      some r8
    else
      some false
  else
    some false

def palingref15_Device_L1 (a1 : Api_Net) (a2 : ByteArray) (v3 : Int) : Option ((Int) ⊕ (Int ⊕ Unit)) :=
  if (decide (v3 < (a1.devices.length : Int))) = true then
    (nth a1.devices v3).bind fun x5 =>
    if (seqB x5.name a2) = true then
      some (Sum.inr (Sum.inl v3))
    else
      some (Sum.inl (wr_i64 (v3 + 1)))
  else
    some (Sum.inr (Sum.inr ()))

def palingref15_Device (a1 : Api_Net) (a2 : ByteArray) : Option (Int) :=
  (loopM (palingref15_Device_L1 a1 a2) 0).bind fun r11 => match r11 with
  | Sum.inl v9 =>
    some v9
  | Sum.inr () =>
    some (-1)

def palingref15_Port_L1 (a1 : Api_Net) (a2 : Int) (a3 : ByteArray) (v4 : Int) : Option ((Int) ⊕ (Int ⊕ Unit)) :=
  if (decide (v4 < (a1.ports.length : Int))) = true then
    (nth a1.ports v4).bind fun x6 =>
    if (x6.dev == a2) = true then
      (nth a1.ports v4).bind fun x9 =>
      if (seqB x9.name a3) = true then
        some (Sum.inr (Sum.inl v4))
      else
        some (Sum.inl (wr_i64 (v4 + 1)))
    else
      some (Sum.inl (wr_i64 (v4 + 1)))
  else
    some (Sum.inr (Sum.inr ()))

def palingref15_Port (a1 : Api_Net) (a2 : Int) (a3 : ByteArray) : Option (Int) :=
  (loopM (palingref15_Port_L1 a1 a2 a3) 0).bind fun r15 => match r15 with
  | Sum.inl v13 =>
    some v13
  | Sum.inr () =>
    some (-1)

def palingref17_end (a1 : Api_Net) (a2 : ByteArray) (a3 : ByteArray) : Option (Int) :=
  (palingref15_Device a1 a2).bind fun r4 =>
  if (decide (r4 < 0)) = true then
    some (-1)
  else
    (palingref15_Port a1 r4 a3).bind fun r7 =>
    some r7

def palingref17_Add (a1 : Api_Net) (a2 : Api_Line) : Option (((List Api_Device) × (List Api_Port) × (List Api_Link) × (List Api_Domain) × (List Api_Static) × (List Api_Flood) × (List Api_Vrf) × (List Api_Irb) × Nat × Nat × Nat × Nat × Int)) :=
  (palingref16_Fits a1 a2 3).bind fun r3 =>
  if (!r3) = true then
    some ([], [], [], [], [], [], [], [], 0, 0, 0, 0, 2)
  else
    (palingref17_end a1 a2.dev a2.port).bind fun r6 =>
    (palingref17_end a1 a2.peer a2.far).bind fun r8 =>
    if (decide (r6 < 0)) = true then
      some ([], [], [], [], [], [], [], [], 0, 0, 0, 0, 31)
    else
      if (decide (r8 < 0)) = true then
        some ([], [], [], [], [], [], [], [], 0, 0, 0, 0, 31)
      else
        (nth a1.ports r6).bind fun x12 =>
        (nth a1.ports r8).bind fun x14 =>
        if (x12.dev == x14.dev) = true then
          some ([], [], [], [], [], [], [], [], 0, 0, 0, 0, 33)
        else
          (nth a1.ports r6).bind fun x17 =>
          if (x17.link != (-1)) = true then
            some ([], [], [], [], [], [], [], [], 0, 0, 0, 0, 33)
          else
            (nth a1.ports r8).bind fun x20 =>
            if (x20.link != (-1)) = true then
              some ([], [], [], [], [], [], [], [], 0, 0, 0, 0, 33)
            else
              if (decide ((a1.links.length : Int) ≥ 20)) = true then
                some ([], [], [], [], [], [], [], [], 0, 0, 0, 0, 3)
              else
                (palingref15_Copy a1).bind fun r24 => match r24 with
                | (l26, l27, l28, l29) =>
                  if (lin l26 r6) = true then
                    (l26[(Int.toNat r6)]?).bind fun x31 =>
                    if (lin (List.set l26 (Int.toNat r6) (⟨x31.row, x31.dev, x31.native, x31.cost, (a1.links.length : Int), x31.name, x31.tagged⟩ : Api_Port)) r8) = true then
                      ((List.set l26 (Int.toNat r6) (⟨x31.row, x31.dev, x31.native, x31.cost, (a1.links.length : Int), x31.name, x31.tagged⟩ : Api_Port))[(Int.toNat r8)]?).bind fun x34 =>
                      if (roomy 24 (a1.links ++ [(⟨a2.row, r6, r8⟩ : Api_Link)])) = true then
                        some (a1.devices, List.set (List.set l26 (Int.toNat r6) (⟨x31.row, x31.dev, x31.native, x31.cost, (a1.links.length : Int), x31.name, x31.tagged⟩ : Api_Port)) (Int.toNat r8) (⟨x34.row, x34.dev, x34.native, x34.cost, (a1.links.length : Int), x34.name, x34.tagged⟩ : Api_Port), a1.links ++ [(⟨a2.row, r6, r8⟩ : Api_Link)], l27, a1.statics, l28, l29, a1.irbs, (List.length a1.ports), (List.length a1.domains), (List.length a1.floods), (List.length a1.vrfs), 0)
                      else
                        none
                    else
                      none
                  else
                    none

def palingref15_tops_L1 (a1 : Api_Net) (a2 : Api_Net) (v7 : Int) : Option ((Int) ⊕ (Unit ⊕ Unit)) :=
  if (decide (v7 < (a1.devices.length : Int))) = true then
    (nth a1.devices v7).bind fun x9 =>
    (nth a2.devices v7).bind fun x11 =>
    if (!(eq_Api_Device x9 x11)) = true then
      some (Sum.inr (Sum.inl ()))
    else
      some (Sum.inl (wr_i64 (v7 + 1)))
  else
    some (Sum.inr (Sum.inr ()))

def palingref15_tops_L2 (a1 : Api_Net) (a2 : Api_Net) (v16 : Int) : Option ((Int) ⊕ (Unit ⊕ Unit)) :=
  if (decide (v16 < (a1.links.length : Int))) = true then
    (nth a1.links v16).bind fun x18 =>
    (nth a2.links v16).bind fun x20 =>
    if (!(eq_Api_Link x18 x20)) = true then
      some (Sum.inr (Sum.inl ()))
    else
      some (Sum.inl (wr_i64 (v16 + 1)))
  else
    some (Sum.inr (Sum.inr ()))

def palingref15_tops_L3 (a1 : Api_Net) (a2 : Api_Net) (v25 : Int) : Option ((Int) ⊕ (Unit ⊕ Unit)) :=
  if (decide (v25 < (a1.statics.length : Int))) = true then
    (nth a1.statics v25).bind fun x27 =>
    (nth a2.statics v25).bind fun x29 =>
    if (!(eq_Api_Static x27 x29)) = true then
      some (Sum.inr (Sum.inl ()))
    else
      some (Sum.inl (wr_i64 (v25 + 1)))
  else
    some (Sum.inr (Sum.inr ()))

def palingref15_tops_L4 (a1 : Api_Net) (a2 : Api_Net) (v34 : Int) : Option ((Int) ⊕ (Unit ⊕ Unit)) :=
  if (decide (v34 < (a1.irbs.length : Int))) = true then
    (nth a1.irbs v34).bind fun x36 =>
    (nth a2.irbs v34).bind fun x38 =>
    if (!(eq_Api_Irb x36 x38)) = true then
      some (Sum.inr (Sum.inl ()))
    else
      some (Sum.inl (wr_i64 (v34 + 1)))
  else
    some (Sum.inr (Sum.inr ()))

def palingref15_tops (a1 : Api_Net) (a2 : Api_Net) : Option (Bool) :=
  if ((a1.devices.length : Int) != (a2.devices.length : Int)) = true then
    some false
  else
    if ((a1.links.length : Int) != (a2.links.length : Int)) = true then
      some false
    else
      if ((a1.statics.length : Int) != (a2.statics.length : Int)) = true then
        some false
      else
        if ((a1.irbs.length : Int) != (a2.irbs.length : Int)) = true then
          some false
        else
          (loopM (palingref15_tops_L1 a1 a2) 0).bind fun r15 => match r15 with
          | Sum.inl () =>
            some false
          | Sum.inr () =>
            (loopM (palingref15_tops_L2 a1 a2) 0).bind fun r24 => match r24 with
            | Sum.inl () =>
              some false
            | Sum.inr () =>
              (loopM (palingref15_tops_L3 a1 a2) 0).bind fun r33 => match r33 with
              | Sum.inl () =>
                some false
              | Sum.inr () =>
                (loopM (palingref15_tops_L4 a1 a2) 0).bind fun r42 => match r42 with
                | Sum.inl () =>
                  some false
                | Sum.inr () =>
                  some true

def palingref15_Same_L1 (a1 : Api_Net) (a2 : Api_Net) (v10 : Int) : Option ((Int) ⊕ (Unit ⊕ Unit)) :=
  if (decide (v10 < (a1.ports.length : Int))) = true then
    (nth a1.ports v10).bind fun x12 =>
    (nth a2.ports v10).bind fun x14 =>
    if (x12.row != x14.row) = true then
      some (Sum.inr (Sum.inl ()))
    else
      if (x12.dev != x14.dev) = true then
        some (Sum.inr (Sum.inl ()))
      else
        if (x12.native != x14.native) = true then
          some (Sum.inr (Sum.inl ()))
        else
          if (x12.cost != x14.cost) = true then
            some (Sum.inr (Sum.inl ()))
          else
            if (x12.link != x14.link) = true then
              some (Sum.inr (Sum.inl ()))
            else
              if (!(seqB x12.name x14.name)) = true then
                some (Sum.inr (Sum.inl ()))
              else
                (palingref03_Ints x12.tagged x14.tagged).bind fun r22 =>
                if (!r22) = true then
                  some (Sum.inr (Sum.inl ()))
                else
                  some (Sum.inl (wr_i64 (v10 + 1)))
  else
    some (Sum.inr (Sum.inr ()))

def palingref15_Same_L2 (a1 : Api_Net) (a2 : Api_Net) (v27 : Int) : Option ((Int) ⊕ (Unit ⊕ Unit)) :=
  if (decide (v27 < (a1.domains.length : Int))) = true then
    (nth a1.domains v27).bind fun x29 =>
    (nth a2.domains v27).bind fun x31 =>
    if (x29.dev != x31.dev) = true then
      some (Sum.inr (Sum.inl ()))
    else
      if (x29.vlan != x31.vlan) = true then
        some (Sum.inr (Sum.inl ()))
      else
        if (x29.vni != x31.vni) = true then
          some (Sum.inr (Sum.inl ()))
        else
          if (x29.irb != x31.irb) = true then
            some (Sum.inr (Sum.inl ()))
          else
            if (x29.row != x31.row) = true then
              some (Sum.inr (Sum.inl ()))
            else
              (palingref03_Ints x29.peers x31.peers).bind fun r38 =>
              if (!r38) = true then
                some (Sum.inr (Sum.inl ()))
              else
                some (Sum.inl (wr_i64 (v27 + 1)))
  else
    some (Sum.inr (Sum.inr ()))

def palingref15_Same_L3 (a1 : Api_Net) (a2 : Api_Net) (v43 : Int) : Option ((Int) ⊕ (Unit ⊕ Unit)) :=
  if (decide (v43 < (a1.floods.length : Int))) = true then
    (nth a1.floods v43).bind fun x45 =>
    (nth a2.floods v43).bind fun x47 =>
    if (x45.row != x47.row) = true then
      some (Sum.inr (Sum.inl ()))
    else
      if (x45.dev != x47.dev) = true then
        some (Sum.inr (Sum.inl ()))
      else
        if (x45.vni != x47.vni) = true then
          some (Sum.inr (Sum.inl ()))
        else
          (palingref03_Addrs x45.addrs x47.addrs).bind fun r52 =>
          if (!r52) = true then
            some (Sum.inr (Sum.inl ()))
          else
            some (Sum.inl (wr_i64 (v43 + 1)))
  else
    some (Sum.inr (Sum.inr ()))

def palingref15_Same_L4 (a1 : Api_Net) (a2 : Api_Net) (v57 : Int) : Option ((Int) ⊕ (Unit ⊕ Unit)) :=
  if (decide (v57 < (a1.vrfs.length : Int))) = true then
    (nth a1.vrfs v57).bind fun x59 =>
    (nth a2.vrfs v57).bind fun x61 =>
    if (x59.row != x61.row) = true then
      some (Sum.inr (Sum.inl ()))
    else
      if (x59.dev != x61.dev) = true then
        some (Sum.inr (Sum.inl ()))
      else
        if (!(seqB x59.name x61.name)) = true then
          some (Sum.inr (Sum.inl ()))
        else
          (palingref03_Ints x59.imports x61.imports).bind fun r66 =>
          if (!r66) = true then
            some (Sum.inr (Sum.inl ()))
          else
            (palingref03_Ints x59.exports x61.exports).bind fun r69 =>
            if (!r69) = true then
              some (Sum.inr (Sum.inl ()))
            else
              some (Sum.inl (wr_i64 (v57 + 1)))
  else
    some (Sum.inr (Sum.inr ()))

def palingref15_Same (a1 : Api_Net) (a2 : Api_Net) : Option (Bool) :=
  (palingref15_tops a1 a2).bind fun r3 =>
  if (!r3) = true then
    some false
  else
    if ((a1.ports.length : Int) != (a2.ports.length : Int)) = true then
      some false
    else
      if ((a1.domains.length : Int) != (a2.domains.length : Int)) = true then
        some false
      else
        if ((a1.floods.length : Int) != (a2.floods.length : Int)) = true then
          some false
        else
          if ((a1.vrfs.length : Int) != (a2.vrfs.length : Int)) = true then
            some false
          else
            (loopM (palingref15_Same_L1 a1 a2) 0).bind fun r26 => match r26 with
            | Sum.inl () =>
              some false
            | Sum.inr () =>
              (loopM (palingref15_Same_L2 a1 a2) 0).bind fun r42 => match r42 with
              | Sum.inl () =>
                some false
              | Sum.inr () =>
                (loopM (palingref15_Same_L3 a1 a2) 0).bind fun r56 => match r56 with
                | Sum.inl () =>
                  some false
                | Sum.inr () =>
                  (loopM (palingref15_Same_L4 a1 a2) 0).bind fun r73 => match r73 with
                  | Sum.inl () =>
                    some false
                  | Sum.inr () =>
                    some true

def palinglaw17_LinksAdds (a1 : Api_Net) (a2 : Api_Line) : Option (Bool) :=
  (palinglaw16_Great a1 a2).bind fun r3 =>
  if (r3) = true then
    (palinglaw17_works).bind fun r6 =>
    some r6
  else
    (links_Add a1 a2).bind fun r8 => match r8 with
    | (l10, l11, l12, l13, l14, l15, l16, l17, n18, n19, n20, n21, v22) =>
      (palingref17_Add a1 a2).bind fun r23 => match r23 with
      | (l25, l26, l27, l28, l29, l30, l31, l32, n33, n34, n35, n36, v37) =>
        (palingref15_Same (⟨l10, l11, l12, l13, l14, l15, l16, l17⟩ : Api_Net) (⟨l25, l26, l27, l28, l29, l30, l31, l32⟩ : Api_Net)).bind fun r38 =>
        if (r38) = true then
          if (v22 == v37) = true then
            (palinglaw17_works).bind fun r42 =>
            some r42
          else
            some false
        else
          some false

def ports_begin (a1 : Api_Net) (a2 : Api_Line) (a3 : Int) : Option ((Unit) ⊕ ((List Api_Device) × (List Api_Port) × (List Api_Link) × (List Api_Domain) × (List Api_Static) × (List Api_Flood) × (List Api_Vrf) × (List Api_Irb) × Nat × Nat × Nat × Nat)) :=
  if (a2.kind != a3) = true then
    some (Sum.inl ())
  else
    (stmt_Right a2).bind fun r5 =>
    if (!r5) = true then
      some (Sum.inl ())
    else
      (names_Right a1).bind fun r8 =>
      if (!r8) = true then
        some (Sum.inl ())
      else
        (names_Copy a1).bind fun r11 => match r11 with
        | (l13, l14, l15, l16, l17, l18, l19, l20, n21, n22, n23, n24) =>
          some (Sum.inr (l13, l14, l15, l16, l17, l18, l19, l20, n21, n22, n23, n24))

def ports_Device_1 (a1 : Api_Device) (a2 : Api_Line) : Option (Bool) :=
  if (seqB a1.name a2.dev) = true then
    some true
  else
    some (a1.mac == a2.mac)

def slices_IndexFunc_Device_Device_1x_L1 (a1 : List Api_Device) (a2 : Api_Line) (v3 : Int) : Option ((Int) ⊕ (Int ⊕ Unit)) :=
  if (decide (v3 < (a1.length : Int))) = true then
    (nth a1 v3).bind fun x5 =>
    (ports_Device_1 x5 a2).bind fun r7 =>
    if (r7) = true then
      some (Sum.inr (Sum.inl v3))
    else
      some (Sum.inl (wr_i64 (v3 + 1)))
  else
    some (Sum.inr (Sum.inr ()))

def slices_IndexFunc_Device_Device_1x (a1 : List Api_Device) (a2 : Api_Line) : Option (Int) :=
  (loopM (slices_IndexFunc_Device_Device_1x_L1 a1 a2) 0).bind fun r13 => match r13 with
  | Sum.inl v11 =>
    some v11
  | Sum.inr () =>
    some (-1)

def slices_ContainsFunc_Device_Device_1 (a1 : List Api_Device) (a2 : Api_Line) : Option (Bool) :=
  (slices_IndexFunc_Device_Device_1x a1 a2).bind fun r3 =>
  some (decide (r3 ≥ 0))

def ports_Device (a1 : Api_Net) (a2 : Api_Line) : Option (((List Api_Device) × (List Api_Port) × (List Api_Link) × (List Api_Domain) × (List Api_Static) × (List Api_Flood) × (List Api_Vrf) × (List Api_Irb) × Nat × Nat × Nat × Nat × Int)) :=
  (ports_begin a1 a2 1).bind fun r17 => match r17 with
  | Sum.inl () =>
    some ([], [], [], [], [], [], [], [], 0, 0, 0, 0, 2)
  | Sum.inr (l19, l20, l21, l22, l23, l24, l25, l26, n27, n28, n29, n30) =>
    (slices_ContainsFunc_Device_Device_1 l19 a2).bind fun r31 =>
    if (r31) = true then
      some ([], [], [], [], [], [], [], [], 0, 0, 0, 0, 30)
    else
      if (((List.length l19) : Int) == 8) = true then
        some ([], [], [], [], [], [], [], [], 0, 0, 0, 0, 3)
      else
        if (roomy 48 (l19 ++ [(⟨a2.row, a2.num, a2.dev, a2.mac, 0⟩ : Api_Device)])) = true then
          some (l19 ++ [(⟨a2.row, a2.num, a2.dev, a2.mac, 0⟩ : Api_Device)], l20, l21, l22, l23, l24, l25, l26, n27, n28, n29, n30, 0)
        else
          none

def ports_draft_domain_1 (a1 : Api_Domain) (a2 : Int) (a3 : Int) : Option (Bool) :=
  if (a1.dev == a2) = true then
    some (a1.vlan == a3)
  else
    some false

def slices_IndexFunc_Domain_draft_domain_1_L1 (a1 : List Api_Domain) (a2 : Int) (a3 : Int) (v4 : Int) : Option ((Int) ⊕ (Int ⊕ Unit)) :=
  if (decide (v4 < (a1.length : Int))) = true then
    (nth a1 v4).bind fun x6 =>
    (ports_draft_domain_1 x6 a2 a3).bind fun r8 =>
    if (r8) = true then
      some (Sum.inr (Sum.inl v4))
    else
      some (Sum.inl (wr_i64 (v4 + 1)))
  else
    some (Sum.inr (Sum.inr ()))

def slices_IndexFunc_Domain_draft_domain_1 (a1 : List Api_Domain) (a2 : Int) (a3 : Int) : Option (Int) :=
  (loopM (slices_IndexFunc_Domain_draft_domain_1_L1 a1 a2 a3) 0).bind fun r14 => match r14 with
  | Sum.inl v12 =>
    some v12
  | Sum.inr () =>
    some (-1)

def slices_ContainsFunc_Domain_draft_domain_1 (a1 : List Api_Domain) (a2 : Int) (a3 : Int) : Option (Bool) :=
  (slices_IndexFunc_Domain_draft_domain_1 a1 a2 a3).bind fun r4 =>
  some (decide (r4 ≥ 0))

def ports_draft_domain_own_J1 (a1 : List Api_Device) (a2 : List Api_Port) (a3 : List Api_Link) (a4 : List Api_Domain) (n5 : Nat) (a6 : List Api_Static) (a7 : List Api_Flood) (n8 : Nat) (a9 : List Api_Vrf) (n10 : Nat) (a11 : List Api_Irb) (a12 : Int) (a13 : Int) : Option (Bool) :=
  if (decide (a13 > 0)) = true then
    (slices_ContainsFunc_Domain_draft_domain_1 a4 a12 a13).bind fun r15 =>
    some (!r15)
  else
    some false

def ports_draft_domain_own (a1 : List Api_Device) (a2 : List Api_Port) (a3 : List Api_Link) (a4 : List Api_Domain) (n5 : Nat) (a6 : List Api_Static) (a7 : List Api_Flood) (n8 : Nat) (a9 : List Api_Vrf) (n10 : Nat) (a11 : List Api_Irb) (a12 : Int) (a13 : Int) : Option (((List Api_Domain) × Nat)) :=
  (ports_draft_domain_own_J1 a1 a2 a3 a4 n5 a6 a7 n8 a9 n10 a11 a12 a13).bind fun r20 => match r20 with
  | v18 =>
    if (v18) = true then
      if (roomy 64 (a4 ++ [(⟨a12, a13, 0, (-1), 0, []⟩ : Api_Domain)])) = true then
        some (a4 ++ [(⟨a12, a13, 0, (-1), 0, []⟩ : Api_Domain)], (List.length (a4 ++ [(⟨a12, a13, 0, (-1), 0, []⟩ : Api_Domain)])))
      else
        none
    else
      some (a4, n5)

def ports_Port_L1 (a2 : Api_Line) (l19 : List Api_Device) (l20 : List Api_Port) (l21 : List Api_Link) (l23 : List Api_Static) (l24 : List Api_Flood) (l25 : List Api_Vrf) (l26 : List Api_Irb) (n29 : Nat) (n30 : Nat) (r31 : Int) (l40 : List Int) (l46 : List Api_Domain) (n47 : Nat) (v48 : Int) : Option (((List Api_Domain) × Nat × Int) ⊕ (((List Api_Domain) × Nat))) :=
  if (decide (v48 < (a2.tagged.length : Int))) = true then
    (nth a2.tagged v48).bind fun x50 =>
    (ports_draft_domain_own l19 (l20 ++ [(⟨a2.row, r31, a2.vlan, a2.cost, (-1), a2.port, l40⟩ : Api_Port)]) l21 l46 n47 l23 l24 n29 l25 n30 l26 r31 x50).bind fun r52 => match r52 with
    | (l54, n55) =>
      some (Sum.inl (l54, n55, wr_i64 (v48 + 1)))
  else
    some (Sum.inr (l46, n47))

def ports_Port (a1 : Api_Net) (a2 : Api_Line) : Option (((List Api_Device) × (List Api_Port) × (List Api_Link) × (List Api_Domain) × (List Api_Static) × (List Api_Flood) × (List Api_Vrf) × (List Api_Irb) × Nat × Nat × Nat × Int)) :=
  (ports_begin a1 a2 2).bind fun r17 => match r17 with
  | Sum.inl () =>
    some ([], [], [], [], [], [], [], [], 0, 0, 0, 2)
  | Sum.inr (l19, l20, l21, l22, l23, l24, l25, l26, n27, n28, n29, n30) =>
    (names_Device a1 a2.dev).bind fun r31 =>
    if (decide (r31 < 0)) = true then
      some ([], [], [], [], [], [], [], [], 0, 0, 0, 31)
    else
      (names_Port a1 r31 a2.port).bind fun r34 =>
      if (decide (r34 ≥ 0)) = true then
        some ([], [], [], [], [], [], [], [], 0, 0, 0, 30)
      else
        if ((n27 : Int) == 40) = true then
          some ([], [], [], [], [], [], [], [], 0, 0, 0, 3)
        else
          (slices_Clone_int a2.tagged).bind fun r38 => match r38 with
          | l40 =>
            if (roomy 80 (l20 ++ [(⟨a2.row, r31, a2.vlan, a2.cost, (-1), a2.port, l40⟩ : Api_Port)])) = true then
              (ports_draft_domain_own l19 (l20 ++ [(⟨a2.row, r31, a2.vlan, a2.cost, (-1), a2.port, l40⟩ : Api_Port)]) l21 l22 n28 l23 l24 n29 l25 n30 l26 r31 a2.vlan).bind fun r42 => match r42 with
              | (l44, n45) =>
                (loopM (fun s : (List Api_Domain) × Nat × Int => match s with | (l46, n47, v48) => ports_Port_L1 a2 l19 l20 l21 l23 l24 l25 l26 n29 n30 r31 l40 l46 n47 v48) (l44, n45, 0)).bind fun r65 => match r65 with
                | (l62, n63) =>
                  if (decide ((n63 : Int) > 48)) = true then
                    some ([], [], [], [], [], [], [], [], 0, 0, 0, 3)
                  else
                    some (l19, (l20 ++ [(⟨a2.row, r31, a2.vlan, a2.cost, (-1), a2.port, l40⟩ : Api_Port)]), l21, l62, l23, l24, l25, l26, n63, n29, n30, 0)
            else
              none

def palinglaw16_works : Option (Bool) :=
  (ports_Device (⟨[], [], [], [], [], [], [], []⟩ : Api_Net) (⟨0, 1, (⟨#[97]⟩ : ByteArray), (⟨#[]⟩ : ByteArray), (⟨#[]⟩ : ByteArray), (⟨#[]⟩ : ByteArray), (⟨#[]⟩ : ByteArray), 1, 0, 0, 0, 0, 0, [], [], [], []⟩ : Api_Line)).bind fun r1 => match r1 with
  | (l3, l4, l5, l6, l7, l8, l9, l10, n11, n12, n13, n14, v15) =>
    (ports_Port (⟨l3, l4, l5, l6, l7, l8, l9, l10⟩ : Api_Net) (⟨0, 2, (⟨#[97]⟩ : ByteArray), (⟨#[112]⟩ : ByteArray), (⟨#[]⟩ : ByteArray), (⟨#[]⟩ : ByteArray), (⟨#[]⟩ : ByteArray), 0, 0, 0, 10, 0, 1, [], [], [], []⟩ : Api_Line)).bind fun r16 => match r16 with
    | (l18, l19, l20, l21, l22, l23, l24, l25, n26, n27, n28, v29) =>
      (ports_Port (⟨l18, l19, l20, l21, l22, l23, l24, l25⟩ : Api_Net) (⟨0, 2, (⟨#[97]⟩ : ByteArray), (⟨#[112]⟩ : ByteArray), (⟨#[]⟩ : ByteArray), (⟨#[]⟩ : ByteArray), (⟨#[]⟩ : ByteArray), 0, 0, 0, 10, 0, 1, [], [], [], []⟩ : Api_Line)).bind fun r30 => match r30 with
      | (l32, l33, l34, l35, l36, l37, l38, l39, n40, n41, n42, v43) =>
        if (v15 == 0) = true then
          if (v29 == 0) = true then
            if (((List.length l19) : Int) == 1) = true then
              if ((n26 : Int) == 1) = true then
                if (lin l21 0) = true then
                  (l21[(Int.toNat 0)]?).bind fun x49 =>
                  if (x49.vlan == 10) = true then
                    some (v43 == 30)
                  else
                    some false
                else
                  none
              else
                some false
            else
              some false
          else
            some false
        else
          some false

def palingref16_Device_L1 (a1 : Api_Net) (a2 : Api_Line) (v6 : Int) : Option ((Int) ⊕ (Unit ⊕ Unit)) :=
  if (decide (v6 < (a1.devices.length : Int))) = true then
    (nth a1.devices v6).bind fun x8 =>
    if (seqB x8.name a2.dev) = true then
      some (Sum.inr (Sum.inl ()))
    else
      (nth a1.devices v6).bind fun x11 =>
      if (x11.mac == a2.mac) = true then
        some (Sum.inr (Sum.inl ()))
      else
        some (Sum.inl (wr_i64 (v6 + 1)))
  else
    some (Sum.inr (Sum.inr ()))

def palingref16_Device (a1 : Api_Net) (a2 : Api_Line) : Option (((List Api_Device) × (List Api_Port) × (List Api_Link) × (List Api_Domain) × (List Api_Static) × (List Api_Flood) × (List Api_Vrf) × (List Api_Irb) × Nat × Nat × Nat × Nat × Int)) :=
  (palingref16_Fits a1 a2 1).bind fun r3 =>
  if (!r3) = true then
    some ([], [], [], [], [], [], [], [], 0, 0, 0, 0, 2)
  else
    (loopM (palingref16_Device_L1 a1 a2) 0).bind fun r15 => match r15 with
    | Sum.inl () =>
      some ([], [], [], [], [], [], [], [], 0, 0, 0, 0, 30)
    | Sum.inr () =>
      if (decide ((a1.devices.length : Int) ≥ 8)) = true then
        some ([], [], [], [], [], [], [], [], 0, 0, 0, 0, 3)
      else
        (palingref15_Copy a1).bind fun r17 => match r17 with
        | (l19, l20, l21, l22) =>
          if (roomy 48 (a1.devices ++ [(⟨a2.row, a2.num, a2.dev, a2.mac, 0⟩ : Api_Device)])) = true then
            some (a1.devices ++ [(⟨a2.row, a2.num, a2.dev, a2.mac, 0⟩ : Api_Device)], l19, a1.links, l20, a1.statics, l21, l22, a1.irbs, (List.length a1.ports), (List.length a1.domains), (List.length a1.floods), (List.length a1.vrfs), 0)
          else
            none

def palingref16_Port_J2 (a1 : Api_Net) (a2 : Api_Line) (r6 : Int) (l14 : List Api_Port) (l16 : List Api_Flood) (l17 : List Api_Vrf) (l21 : List Api_Domain) (n22 : Nat) (v23 : Int) : Option (Bool) :=
  if (lin ([a2.vlan] ++ a2.tagged) v23) = true then
    (([a2.vlan] ++ a2.tagged)[(Int.toNat v23)]?).bind fun x26 =>
    if (decide (x26 > 0)) = true then
      (([a2.vlan] ++ a2.tagged)[(Int.toNat v23)]?).bind fun x29 =>
      (palingref15_At (⟨a1.devices, l14 ++ [(⟨a2.row, r6, a2.vlan, a2.cost, (-1), a2.port, a2.tagged⟩ : Api_Port)], a1.links, l21, a1.statics, l16, l17, a1.irbs⟩ : Api_Net) r6 x29).bind fun r31 =>
      some (decide (r31 < 0))
    else
      some false
  else
    none

def palingref16_Port_L1 (a1 : Api_Net) (a2 : Api_Line) (r6 : Int) (l14 : List Api_Port) (l16 : List Api_Flood) (l17 : List Api_Vrf) (l21 : List Api_Domain) (n22 : Nat) (v23 : Int) : Option (((List Api_Domain) × Nat × Int) ⊕ (((List Api_Domain) × Nat))) :=
  if (decide (v23 < ((List.length ([a2.vlan] ++ a2.tagged)) : Int))) = true then
    (palingref16_Port_J2 a1 a2 r6 l14 l16 l17 l21 n22 v23).bind fun r36 => match r36 with
    | v34 =>
      if (v34) = true then
        if (lin ([a2.vlan] ++ a2.tagged) v23) = true then
          (([a2.vlan] ++ a2.tagged)[(Int.toNat v23)]?).bind fun x39 =>
          if (roomy 64 (l21 ++ [(⟨r6, x39, 0, (-1), 0, []⟩ : Api_Domain)])) = true then
            some (Sum.inl (l21 ++ [(⟨r6, x39, 0, (-1), 0, []⟩ : Api_Domain)], (List.length (l21 ++ [(⟨r6, x39, 0, (-1), 0, []⟩ : Api_Domain)])), wr_i64 (v23 + 1)))
          else
            none
        else
          none
      else
        some (Sum.inl (l21, n22, wr_i64 (v23 + 1)))
  else
    some (Sum.inr (l21, n22))

def palingref16_Port (a1 : Api_Net) (a2 : Api_Line) : Option (((List Api_Device) × (List Api_Port) × (List Api_Link) × (List Api_Domain) × (List Api_Static) × (List Api_Flood) × (List Api_Vrf) × (List Api_Irb) × Nat × Nat × Nat × Int)) :=
  (palingref16_Fits a1 a2 2).bind fun r3 =>
  if (!r3) = true then
    some ([], [], [], [], [], [], [], [], 0, 0, 0, 2)
  else
    (palingref15_Device a1 a2.dev).bind fun r6 =>
    if (decide (r6 < 0)) = true then
      some ([], [], [], [], [], [], [], [], 0, 0, 0, 31)
    else
      (palingref15_Port a1 r6 a2.port).bind fun r9 =>
      if (decide (r9 ≥ 0)) = true then
        some ([], [], [], [], [], [], [], [], 0, 0, 0, 30)
      else
        (palingref15_Copy a1).bind fun r12 => match r12 with
        | (l14, l15, l16, l17) =>
          if (roomy 8 a2.tagged) = true then
            if (roomy 80 (l14 ++ [(⟨a2.row, r6, a2.vlan, a2.cost, (-1), a2.port, a2.tagged⟩ : Api_Port)])) = true then
              if (roomy 8 ([a2.vlan] ++ a2.tagged)) = true then
                (loopM (fun s : (List Api_Domain) × Nat × Int => match s with | (l21, n22, v23) => palingref16_Port_L1 a1 a2 r6 l14 l16 l17 l21 n22 v23) (l15, (List.length a1.domains), 0)).bind fun r51 => match r51 with
                | (l48, n49) =>
                  if (decide (((List.length (l14 ++ [(⟨a2.row, r6, a2.vlan, a2.cost, (-1), a2.port, a2.tagged⟩ : Api_Port)])) : Int) > 40)) = true then
                    some ([], [], [], [], [], [], [], [], 0, 0, 0, 3)
                  else
                    if (decide ((n49 : Int) > 48)) = true then
                      some ([], [], [], [], [], [], [], [], 0, 0, 0, 3)
                    else
                      some (a1.devices, l14 ++ [(⟨a2.row, r6, a2.vlan, a2.cost, (-1), a2.port, a2.tagged⟩ : Api_Port)], a1.links, l48, a1.statics, l16, l17, a1.irbs, n49, (List.length a1.floods), (List.length a1.vrfs), 0)
              else
                none
            else
              none
          else
            none

def palinglaw16_PortsPuts (a1 : Api_Net) (a2 : Api_Line) : Option (Bool) :=
  (palinglaw16_Great a1 a2).bind fun r3 =>
  if (r3) = true then
    (palinglaw16_works).bind fun r6 =>
    some r6
  else
    (ports_Device a1 a2).bind fun r8 => match r8 with
    | (l10, l11, l12, l13, l14, l15, l16, l17, n18, n19, n20, n21, v22) =>
      (palingref16_Device a1 a2).bind fun r23 => match r23 with
      | (l25, l26, l27, l28, l29, l30, l31, l32, n33, n34, n35, n36, v37) =>
        (ports_Port a1 a2).bind fun r38 => match r38 with
        | (l40, l41, l42, l43, l44, l45, l46, l47, n48, n49, n50, v51) =>
          (palingref16_Port a1 a2).bind fun r52 => match r52 with
          | (l54, l55, l56, l57, l58, l59, l60, l61, n62, n63, n64, v65) =>
            (palingref15_Same (⟨l10, l11, l12, l13, l14, l15, l16, l17⟩ : Api_Net) (⟨l25, l26, l27, l28, l29, l30, l31, l32⟩ : Api_Net)).bind fun r66 =>
            if (r66) = true then
              if (v22 == v37) = true then
                (palingref15_Same (⟨l40, l41, l42, l43, l44, l45, l46, l47⟩ : Api_Net) (⟨l54, l55, l56, l57, l58, l59, l60, l61⟩ : Api_Net)).bind fun r70 =>
                if (r70) = true then
                  if (v51 == v65) = true then
                    (palinglaw16_works).bind fun r74 =>
                    some r74
                  else
                    some false
                else
                  some false
              else
                some false
            else
              some false

def overlay_begin (a1 : Api_Net) (a2 : Api_Line) (a3 : Int) : Option (Int × Int) :=
  if (a2.kind != a3) = true then
    some (0, 2)
  else
    (stmt_Right a2).bind fun r5 =>
    if (!r5) = true then
      some (0, 2)
    else
      (names_Right a1).bind fun r8 =>
      if (!r8) = true then
        some (0, 2)
      else
        (names_Device a1 a2.dev).bind fun r11 =>
        if (decide (r11 < 0)) = true then
          some (0, 31)
        else
          some (r11, 0)

def overlay_find_1 (a1 : Api_Domain) (a2 : Int) (a3 : Int) : Option (Bool) :=
  if (a1.dev == a2) = true then
    if (a1.vni == a3) = true then
      some (a3 != 0)
    else
      some false
  else
    some false

def slices_IndexFunc_Domain_find_1_L1 (a1 : List Api_Domain) (a2 : Int) (a3 : Int) (v4 : Int) : Option ((Int) ⊕ (Int ⊕ Unit)) :=
  if (decide (v4 < (a1.length : Int))) = true then
    (nth a1 v4).bind fun x6 =>
    (overlay_find_1 x6 a2 a3).bind fun r8 =>
    if (r8) = true then
      some (Sum.inr (Sum.inl v4))
    else
      some (Sum.inl (wr_i64 (v4 + 1)))
  else
    some (Sum.inr (Sum.inr ()))

def slices_IndexFunc_Domain_find_1 (a1 : List Api_Domain) (a2 : Int) (a3 : Int) : Option (Int) :=
  (loopM (slices_IndexFunc_Domain_find_1_L1 a1 a2 a3) 0).bind fun r14 => match r14 with
  | Sum.inl v12 =>
    some v12
  | Sum.inr () =>
    some (-1)

def overlay_find (a1 : Api_Net) (a2 : Int) (a3 : Int) : Option (Int) :=
  (slices_IndexFunc_Domain_find_1 a1.domains a2 a3).bind fun r4 =>
  some r4

def overlay_list_1 (a1 : Api_Flood) (a2 : Int) (a3 : Int) : Option (Bool) :=
  if (a1.dev == a2) = true then
    some (a1.vni == a3)
  else
    some false

def slices_IndexFunc_Flood_list_1_L1 (a1 : List Api_Flood) (a2 : Int) (a3 : Int) (v4 : Int) : Option ((Int) ⊕ (Int ⊕ Unit)) :=
  if (decide (v4 < (a1.length : Int))) = true then
    (nth a1 v4).bind fun x6 =>
    (overlay_list_1 x6 a2 a3).bind fun r8 =>
    if (r8) = true then
      some (Sum.inr (Sum.inl v4))
    else
      some (Sum.inl (wr_i64 (v4 + 1)))
  else
    some (Sum.inr (Sum.inr ()))

def slices_IndexFunc_Flood_list_1 (a1 : List Api_Flood) (a2 : Int) (a3 : Int) : Option (Int) :=
  (loopM (slices_IndexFunc_Flood_list_1_L1 a1 a2 a3) 0).bind fun r14 => match r14 with
  | Sum.inl v12 =>
    some v12
  | Sum.inr () =>
    some (-1)

def overlay_list (a1 : Api_Net) (a2 : Int) (a3 : Int) : Option (Int) :=
  (slices_IndexFunc_Flood_list_1 a1.floods a2 a3).bind fun r4 =>
  some r4

def slices_Index_uint32_L1 (a1 : List Int) (a2 : Int) (v3 : Int) : Option ((Int) ⊕ (Int ⊕ Unit)) :=
  if (decide (v3 < (a1.length : Int))) = true then
    (nth a1 v3).bind fun x5 =>
    if (a2 == x5) = true then
      some (Sum.inr (Sum.inl v3))
    else
      some (Sum.inl (wr_i64 (v3 + 1)))
  else
    some (Sum.inr (Sum.inr ()))

def slices_Index_uint32 (a1 : List Int) (a2 : Int) : Option (Int) :=
  (loopM (slices_Index_uint32_L1 a1 a2) 0).bind fun r11 => match r11 with
  | Sum.inl v9 =>
    some v9
  | Sum.inr () =>
    some (-1)

def slices_Contains_uint32 (a1 : List Int) (a2 : Int) : Option (Bool) :=
  (slices_Index_uint32 a1 a2).bind fun r3 =>
  some (decide (r3 ≥ 0))

def overlay_Flood (a1 : Api_Net) (a2 : Api_Line) : Option (((List Api_Device) × (List Api_Port) × (List Api_Link) × (List Api_Domain) × (List Api_Static) × (List Api_Flood) × (List Api_Vrf) × (List Api_Irb) × Nat × Nat × Nat × Int)) :=
  (overlay_begin a1 a2 7).bind fun r3 =>
  if (r3.2 != 0) = true then
    some ([], [], [], [], [], [], [], [], 0, 0, 0, r3.2)
  else
    (overlay_find a1 r3.1 a2.num).bind fun r6 =>
    if (decide (r6 < 0)) = true then
      some ([], [], [], [], [], [], [], [], 0, 0, 0, 31)
    else
      (overlay_list a1 r3.1 a2.num).bind fun r9 =>
      if (decide (r9 ≥ 0)) = true then
        some ([], [], [], [], [], [], [], [], 0, 0, 0, 30)
      else
        (nth a1.devices r3.1).bind fun x12 =>
        (slices_Contains_uint32 a2.addrs x12.vtep).bind fun r14 =>
        if (r14) = true then
          some ([], [], [], [], [], [], [], [], 0, 0, 0, 36)
        else
          if ((a1.floods.length : Int) == 48) = true then
            some ([], [], [], [], [], [], [], [], 0, 0, 0, 3)
          else
            (names_Copy a1).bind fun r18 => match r18 with
            | (l20, l21, l22, l23, l24, l25, l26, l27, n28, n29, n30, n31) =>
              (slices_Clone_uint32 a2.addrs).bind fun r32 => match r32 with
              | l34 =>
                if (roomy 48 (l25 ++ [(⟨a2.row, r3.1, a2.num, l34⟩ : Api_Flood)])) = true then
                  some (l20, l21, l22, l23, l24, l25 ++ [(⟨a2.row, r3.1, a2.num, l34⟩ : Api_Flood)], l26, l27, n28, n29, n31, 0)
                else
                  none

def overlay_owner_1 (a1 : Api_Device) (a2 : Int) : Option (Bool) :=
  some (a1.vtep == a2)

def slices_IndexFunc_Device_owner_1_L1 (a1 : List Api_Device) (a2 : Int) (v3 : Int) : Option ((Int) ⊕ (Int ⊕ Unit)) :=
  if (decide (v3 < (a1.length : Int))) = true then
    (nth a1 v3).bind fun x5 =>
    (overlay_owner_1 x5 a2).bind fun r7 =>
    if (r7) = true then
      some (Sum.inr (Sum.inl v3))
    else
      some (Sum.inl (wr_i64 (v3 + 1)))
  else
    some (Sum.inr (Sum.inr ()))

def slices_IndexFunc_Device_owner_1 (a1 : List Api_Device) (a2 : Int) : Option (Int) :=
  (loopM (slices_IndexFunc_Device_owner_1_L1 a1 a2) 0).bind fun r13 => match r13 with
  | Sum.inl v11 =>
    some v11
  | Sum.inr () =>
    some (-1)

def overlay_owner (a1 : Api_Net) (a2 : Int) : Option (Int) :=
  (slices_IndexFunc_Device_owner_1 a1.devices a2).bind fun r3 =>
  some r3

def overlay_agrees_J2 (a1 : Api_Net) (a2 : Api_Flood) (x3 : Api_Device) (v7 : Bool) (v8 : Int) (x10 : Int) (r12 : Int) : Option (Bool) :=
  if (v7) = true then
    if (decide (r12 ≥ 0)) = true then
      if (x10 != 0) = true then
        (overlay_find a1 r12 a2.vni).bind fun r17 =>
        if (decide (r17 ≥ 0)) = true then
          (overlay_list a1 r12 a2.vni).bind fun r20 =>
          some (decide (r20 ≥ 0))
        else
          some false
      else
        some false
    else
      some false
  else
    some false

def overlay_agrees_L3 (a1 : Api_Net) (a2 : Api_Flood) (x3 : Api_Device) (v8 : Int) (x10 : Int) (x29 : Api_Flood) (v33 : Bool) (v34 : Int) : Option ((Bool × Int) ⊕ (Bool)) :=
  if (decide (v34 < (a2.addrs.length : Int))) = true then
    (nth a2.addrs v34).bind fun x36 =>
    if (v33) = true then
      if (x36 == x10) = true then
        some (Sum.inl (true, wr_i64 (v34 + 1)))
      else
        (slices_Contains_uint32 x29.addrs x36).bind fun r40 =>
        some (Sum.inl (r40, wr_i64 (v34 + 1)))
    else
      some (Sum.inl (false, wr_i64 (v34 + 1)))
  else
    some (Sum.inr v33)

def overlay_agrees_L1 (a1 : Api_Net) (a2 : Api_Flood) (x3 : Api_Device) (v7 : Bool) (v8 : Int) : Option ((Bool × Int) ⊕ (Bool)) :=
  if (decide (v8 < (a2.addrs.length : Int))) = true then
    (nth a2.addrs v8).bind fun x10 =>
    (overlay_owner a1 x10).bind fun r12 =>
    (overlay_agrees_J2 a1 a2 x3 v7 v8 x10 r12).bind fun r25 => match r25 with
    | v23 =>
      if (!v23) = true then
        some (Sum.inr v23)
      else
        (overlay_list a1 r12 a2.vni).bind fun r27 =>
        (nth a1.floods r27).bind fun x29 =>
        (slices_Contains_uint32 x29.addrs x3.vtep).bind fun r31 =>
        (loopM (fun s : Bool × Int => match s with | (v33, v34) => overlay_agrees_L3 a1 a2 x3 v8 x10 x29 v33 v34) (r31, 0)).bind fun r45 => match r45 with
        | v43 =>
          some (Sum.inl (v43, wr_i64 (v8 + 1)))
  else
    some (Sum.inr v7)

def overlay_agrees (a1 : Api_Net) (a2 : Api_Flood) : Option (Bool) :=
  (nth a1.devices a2.dev).bind fun x3 =>
  (overlay_find a1 a2.dev a2.vni).bind fun r5 =>
  (loopM (fun s : Bool × Int => match s with | (v7, v8) => overlay_agrees_L1 a1 a2 x3 v7 v8) (decide (r5 ≥ 0), 0)).bind fun r49 => match r49 with
  | v47 =>
    some v47

def overlay_Mesh_L1 (a1 : Api_Net) (v5 : Int) : Option ((Int) ⊕ (Int ⊕ Unit)) :=
  if (decide (v5 < (a1.floods.length : Int))) = true then
    (nth a1.floods v5).bind fun x7 =>
    (overlay_agrees a1 x7).bind fun r9 =>
    if (!r9) = true then
      some (Sum.inr (Sum.inl x7.row))
    else
      some (Sum.inl (wr_i64 (v5 + 1)))
  else
    some (Sum.inr (Sum.inr ()))

def overlay_Mesh_J3 (a1 : Api_Net) (l18 : List Api_Device) (l19 : List Api_Port) (l20 : List Api_Link) (l22 : List Api_Static) (l23 : List Api_Flood) (l24 : List Api_Vrf) (l25 : List Api_Irb) (n26 : Nat) (n27 : Nat) (n28 : Nat) (n29 : Nat) (l30 : List Api_Domain) (v31 : Int) (x33 : Api_Domain) (r35 : Int) : Option (Bool) :=
  if (x33.vni != 0) = true then
    some (decide (r35 ≥ 0))
  else
    some false

def overlay_Mesh_L4 (a1 : Api_Net) (l18 : List Api_Device) (l19 : List Api_Port) (l20 : List Api_Link) (l22 : List Api_Static) (l23 : List Api_Flood) (l24 : List Api_Vrf) (l25 : List Api_Irb) (n26 : Nat) (n27 : Nat) (n28 : Nat) (n29 : Nat) (l30 : List Api_Domain) (v31 : Int) (x33 : Api_Domain) (x43 : Api_Flood) (l45 : List Int) (v46 : Int) : Option (((List Int) × Int) ⊕ ((List Int))) :=
  if (decide (v46 < (x43.addrs.length : Int))) = true then
    (nth x43.addrs v46).bind fun x48 =>
    (overlay_owner a1 x48).bind fun r50 =>
    (overlay_find a1 r50 x33.vni).bind fun r52 =>
    if (roomy 8 (l45 ++ [r52])) = true then
      some (Sum.inl (l45 ++ [r52], wr_i64 (v46 + 1)))
    else
      none
  else
    some (Sum.inr l45)

def overlay_Mesh_L2 (a1 : Api_Net) (l18 : List Api_Device) (l19 : List Api_Port) (l20 : List Api_Link) (l22 : List Api_Static) (l23 : List Api_Flood) (l24 : List Api_Vrf) (l25 : List Api_Irb) (n26 : Nat) (n27 : Nat) (n28 : Nat) (n29 : Nat) (l30 : List Api_Domain) (v31 : Int) : Option (((List Api_Domain) × Int) ⊕ ((List Api_Domain))) :=
  if (decide (v31 < (a1.domains.length : Int))) = true then
    (nth a1.domains v31).bind fun x33 =>
    (overlay_list a1 x33.dev x33.vni).bind fun r35 =>
    (overlay_Mesh_J3 a1 l18 l19 l20 l22 l23 l24 l25 n26 n27 n28 n29 l30 v31 x33 r35).bind fun r41 => match r41 with
    | v39 =>
      if (v39) = true then
        (nth a1.floods r35).bind fun x43 =>
        (loopM (fun s : (List Int) × Int => match s with | (l45, v46) => overlay_Mesh_L4 a1 l18 l19 l20 l22 l23 l24 l25 n26 n27 n28 n29 l30 v31 x33 x43 l45 v46) ([], 0)).bind fun r66 => match r66 with
        | l64 =>
          if (lin l30 v31) = true then
            (l30[(Int.toNat v31)]?).bind fun x68 =>
            some (Sum.inl (List.set l30 (Int.toNat v31) (⟨x68.dev, x68.vlan, x68.vni, x68.irb, x68.row, l64⟩ : Api_Domain), wr_i64 (v31 + 1)))
          else
            none
      else
        if (lin l30 v31) = true then
          (l30[(Int.toNat v31)]?).bind fun x71 =>
          some (Sum.inl (List.set l30 (Int.toNat v31) (⟨x71.dev, x71.vlan, x71.vni, x71.irb, x71.row, []⟩ : Api_Domain), wr_i64 (v31 + 1)))
        else
          none
  else
    some (Sum.inr l30)

def overlay_Mesh (a1 : Api_Net) : Option (((List Api_Device) × (List Api_Port) × (List Api_Link) × (List Api_Domain) × (List Api_Static) × (List Api_Flood) × (List Api_Vrf) × (List Api_Irb) × Nat × Nat × Nat × Nat × Int × Int)) :=
  (names_Right a1).bind fun r2 =>
  if (!r2) = true then
    some ([], [], [], [], [], [], [], [], 0, 0, 0, 0, 0, 2)
  else
    (loopM (overlay_Mesh_L1 a1) 0).bind fun r15 => match r15 with
    | Sum.inl v13 =>
      some ([], [], [], [], [], [], [], [], 0, 0, 0, 0, v13, 36)
    | Sum.inr () =>
      (names_Copy a1).bind fun r16 => match r16 with
      | (l18, l19, l20, l21, l22, l23, l24, l25, n26, n27, n28, n29) =>
        (loopM (fun s : (List Api_Domain) × Int => match s with | (l30, v31) => overlay_Mesh_L2 a1 l18 l19 l20 l22 l23 l24 l25 n26 n27 n28 n29 l30 v31) (l21, 0)).bind fun r78 => match r78 with
        | l76 =>
          (names_Right (⟨l18, l19, l20, l76, l22, l23, l24, l25⟩ : Api_Net)).bind fun r79 =>
          if (!r79) = true then
            some ([], [], [], [], [], [], [], [], 0, 0, 0, 0, 0, 36)
          else
            some (l18, l19, l20, l76, l22, l23, l24, l25, n26, n27, n28, n29, 0, 0)

def palinglaw19_works : Option (Bool) :=
  (overlay_Flood (⟨[(⟨0, 0, (⟨#[97]⟩ : ByteArray), 0, 1⟩ : Api_Device), (⟨0, 0, (⟨#[98]⟩ : ByteArray), 0, 2⟩ : Api_Device)], [], [], [(⟨0, 10, 5010, (-1), 0, []⟩ : Api_Domain), (⟨1, 10, 5010, (-1), 0, []⟩ : Api_Domain)], [], [], [], []⟩ : Api_Net) (⟨7, 7, (⟨#[97]⟩ : ByteArray), (⟨#[]⟩ : ByteArray), (⟨#[]⟩ : ByteArray), (⟨#[]⟩ : ByteArray), (⟨#[]⟩ : ByteArray), 0, 0, 0, 0, 5010, 0, [], [], [], [(2 : Int)]⟩ : Api_Line)).bind fun r1 => match r1 with
  | (l3, l4, l5, l6, l7, l8, l9, l10, n11, n12, n13, v14) =>
    (overlay_Mesh (⟨l3, l4, l5, l6, l7, l8, l9, l10⟩ : Api_Net)).bind fun r15 => match r15 with
    | (l17, l18, l19, l20, l21, l22, l23, l24, n25, n26, n27, n28, v29, v30) =>
      (overlay_Flood (⟨l3, l4, l5, l6, l7, l8, l9, l10⟩ : Api_Net) (⟨0, 7, (⟨#[98]⟩ : ByteArray), (⟨#[]⟩ : ByteArray), (⟨#[]⟩ : ByteArray), (⟨#[]⟩ : ByteArray), (⟨#[]⟩ : ByteArray), 0, 0, 0, 0, 5010, 0, [], [], [], [(1 : Int)]⟩ : Api_Line)).bind fun r31 => match r31 with
      | (l33, l34, l35, l36, l37, l38, l39, l40, n41, n42, n43, v44) =>
        (overlay_Mesh (⟨l33, l34, l35, l36, l37, l38, l39, l40⟩ : Api_Net)).bind fun r45 => match r45 with
        | (l47, l48, l49, l50, l51, l52, l53, l54, n55, n56, n57, n58, v59, v60) =>
          if (v14 == 0) = true then
            if (v30 == 36) = true then
              if (v29 == 7) = true then
                if (v44 == 0) = true then
                  if (v60 == 0) = true then
                    if ((n56 : Int) == 2) = true then
                      if (lin l50 0) = true then
                        (l50[(Int.toNat 0)]?).bind fun x68 =>
                        if ((x68.peers.length : Int) == 1) = true then
                          (l50[(Int.toNat 0)]?).bind fun x71 =>
                          (nth x71.peers 0).bind fun x73 =>
                          some (x73 == 1)
                        else
                          some false
                      else
                        none
                    else
                      some false
                  else
                    some false
                else
                  some false
              else
                some false
            else
              some false
          else
            some false

def overlay_Vtep (a1 : Api_Net) (a2 : Api_Line) : Option (((List Api_Device) × (List Api_Port) × (List Api_Link) × (List Api_Domain) × (List Api_Static) × (List Api_Flood) × (List Api_Vrf) × (List Api_Irb) × Nat × Nat × Nat × Nat × Nat × Int)) :=
  (overlay_begin a1 a2 5).bind fun r3 =>
  if (r3.2 != 0) = true then
    some ([], [], [], [], [], [], [], [], 0, 0, 0, 0, 0, r3.2)
  else
    (nth a1.devices r3.1).bind fun x6 =>
    if (x6.vtep != 0) = true then
      some ([], [], [], [], [], [], [], [], 0, 0, 0, 0, 0, 30)
    else
      (overlay_owner a1 a2.addr).bind fun r9 =>
      if (decide (r9 ≥ 0)) = true then
        some ([], [], [], [], [], [], [], [], 0, 0, 0, 0, 0, 30)
      else
        (names_Copy a1).bind fun r12 => match r12 with
        | (l14, l15, l16, l17, l18, l19, l20, l21, n22, n23, n24, n25) =>
          if (lin l14 r3.1) = true then
            (l14[(Int.toNat r3.1)]?).bind fun x27 =>
            some (List.set l14 (Int.toNat r3.1) (⟨x27.row, x27.priority, x27.name, x27.mac, a2.addr⟩ : Api_Device), l15, l16, l17, l18, l19, l20, l21, (List.length l14), n22, n23, n24, n25, 0)
          else
            none

def palingref19_begin (a1 : Api_Net) (a2 : Api_Line) (a3 : Int) : Option (Int × Int) :=
  (palingref16_Fits a1 a2 a3).bind fun r4 =>
  if (!r4) = true then
    some (0, 2)
  else
    (palingref15_Device a1 a2.dev).bind fun r7 =>
    if (decide (r7 < 0)) = true then
      some (0, 31)
    else
      some (r7, 0)

def palingref19_Owner_L1 (a1 : Api_Net) (a2 : Int) (v3 : Int) : Option ((Int) ⊕ (Int ⊕ Unit)) :=
  if (decide (v3 < (a1.devices.length : Int))) = true then
    (nth a1.devices v3).bind fun x5 =>
    if (x5.vtep == a2) = true then
      some (Sum.inr (Sum.inl v3))
    else
      some (Sum.inl (wr_i64 (v3 + 1)))
  else
    some (Sum.inr (Sum.inr ()))

def palingref19_Owner (a1 : Api_Net) (a2 : Int) : Option (Int) :=
  (loopM (palingref19_Owner_L1 a1 a2) 0).bind fun r11 => match r11 with
  | Sum.inl v9 =>
    some v9
  | Sum.inr () =>
    some (-1)

def palingref19_Vtep_J1 (a1 : Api_Net) (a2 : Api_Line) (r3 : Int × Int) : Option (Int) :=
  if (r3.2 == 0) = true then
    (nth a1.devices r3.1).bind fun x6 =>
    if (decide (x6.vtep > 0)) = true then
      some 30
    else
      (palingref19_Owner a1 a2.addr).bind fun r9 =>
      if (decide (r9 ≥ 0)) = true then
        some 30
      else
        some r3.2
  else
    some r3.2

def palingref19_Vtep (a1 : Api_Net) (a2 : Api_Line) : Option (((List Api_Device) × (List Api_Port) × (List Api_Link) × (List Api_Domain) × (List Api_Static) × (List Api_Flood) × (List Api_Vrf) × (List Api_Irb) × Nat × Nat × Nat × Nat × Nat × Int)) :=
  (palingref19_begin a1 a2 5).bind fun r3 =>
  (palingref19_Vtep_J1 a1 a2 r3).bind fun r15 => match r15 with
  | v13 =>
    if (v13 != 0) = true then
      some ([], [], [], [], [], [], [], [], 0, 0, 0, 0, 0, v13)
    else
      (palingref15_Copy a1).bind fun r17 => match r17 with
      | (l19, l20, l21, l22) =>
        if (lin a1.devices r3.1) = true then
          (a1.devices[(Int.toNat r3.1)]?).bind fun x24 =>
          some (List.set a1.devices (Int.toNat r3.1) (⟨x24.row, x24.priority, x24.name, x24.mac, a2.addr⟩ : Api_Device), l19, a1.links, l20, a1.statics, l21, l22, a1.irbs, (List.length a1.devices), (List.length a1.ports), (List.length a1.domains), (List.length a1.floods), (List.length a1.vrfs), 0)
        else
          none

def overlay_Vni (a1 : Api_Net) (a2 : Api_Line) : Option (((List Api_Device) × (List Api_Port) × (List Api_Link) × (List Api_Domain) × (List Api_Static) × (List Api_Flood) × (List Api_Vrf) × (List Api_Irb) × Nat × Nat × Nat × Nat × Int)) :=
  (overlay_begin a1 a2 6).bind fun r3 =>
  if (r3.2 != 0) = true then
    some ([], [], [], [], [], [], [], [], 0, 0, 0, 0, r3.2)
  else
    (names_Domain a1 r3.1 a2.vlan).bind fun r6 =>
    (nth a1.devices r3.1).bind fun x8 =>
    if (x8.vtep == 0) = true then
      some ([], [], [], [], [], [], [], [], 0, 0, 0, 0, 35)
    else
      if (decide (r6 < 0)) = true then
        some ([], [], [], [], [], [], [], [], 0, 0, 0, 0, 32)
      else
        (nth a1.domains r6).bind fun x12 =>
        if (x12.vni != 0) = true then
          some ([], [], [], [], [], [], [], [], 0, 0, 0, 0, 30)
        else
          (overlay_find a1 r3.1 a2.num).bind fun r15 =>
          if (decide (r15 ≥ 0)) = true then
            some ([], [], [], [], [], [], [], [], 0, 0, 0, 0, 30)
          else
            (names_Copy a1).bind fun r18 => match r18 with
            | (l20, l21, l22, l23, l24, l25, l26, l27, n28, n29, n30, n31) =>
              if (lin l23 r6) = true then
                (l23[(Int.toNat r6)]?).bind fun x33 =>
                if (lin (List.set l23 (Int.toNat r6) (⟨x33.dev, x33.vlan, a2.num, x33.irb, x33.row, x33.peers⟩ : Api_Domain)) r6) = true then
                  ((List.set l23 (Int.toNat r6) (⟨x33.dev, x33.vlan, a2.num, x33.irb, x33.row, x33.peers⟩ : Api_Domain))[(Int.toNat r6)]?).bind fun x36 =>
                  some (l20, l21, l22, List.set (List.set l23 (Int.toNat r6) (⟨x33.dev, x33.vlan, a2.num, x33.irb, x33.row, x33.peers⟩ : Api_Domain)) (Int.toNat r6) (⟨x36.dev, x36.vlan, x36.vni, x36.irb, a2.row, x36.peers⟩ : Api_Domain), l24, l25, l26, l27, n28, n29, n30, n31, 0)
                else
                  none
              else
                none

def palingref19_Find_L1 (a1 : Api_Net) (a2 : Int) (a3 : Int) (v4 : Int) : Option ((Int) ⊕ (Int ⊕ Unit)) :=
  if (decide (v4 < (a1.domains.length : Int))) = true then
    (nth a1.domains v4).bind fun x6 =>
    if (x6.dev == a2) = true then
      (nth a1.domains v4).bind fun x9 =>
      if (x9.vni == a3) = true then
        if (a3 != 0) = true then
          some (Sum.inr (Sum.inl v4))
        else
          some (Sum.inl (wr_i64 (v4 + 1)))
      else
        some (Sum.inl (wr_i64 (v4 + 1)))
    else
      some (Sum.inl (wr_i64 (v4 + 1)))
  else
    some (Sum.inr (Sum.inr ()))

def palingref19_Find (a1 : Api_Net) (a2 : Int) (a3 : Int) : Option (Int) :=
  (loopM (palingref19_Find_L1 a1 a2 a3) 0).bind fun r16 => match r16 with
  | Sum.inl v14 =>
    some v14
  | Sum.inr () =>
    some (-1)

def palingref19_Vni_J1 (a1 : Api_Net) (a2 : Api_Line) (r3 : Int × Int) : Option (Int) :=
  if (r3.2 == 0) = true then
    (nth a1.devices r3.1).bind fun x6 =>
    if (x6.vtep == 0) = true then
      some 35
    else
      some r3.2
  else
    some r3.2

def palingref19_Vni_J2 (a1 : Api_Net) (a2 : Api_Line) (r3 : Int × Int) (v10 : Int) (r13 : Int) : Option (Int) :=
  if (v10 == 0) = true then
    if (decide (r13 < 0)) = true then
      some 32
    else
      some v10
  else
    some v10

def palingref19_Vni_J3 (a1 : Api_Net) (a2 : Api_Line) (r3 : Int × Int) (r13 : Int) (v18 : Int) : Option (Int) :=
  if (v18 == 0) = true then
    (nth a1.domains r13).bind fun x22 =>
    if (decide (x22.vni > 0)) = true then
      some 30
    else
      (palingref19_Find a1 r3.1 a2.num).bind fun r25 =>
      if (decide (r25 ≥ 0)) = true then
        some 30
      else
        some v18
  else
    some v18

def palingref19_Vni (a1 : Api_Net) (a2 : Api_Line) : Option (((List Api_Device) × (List Api_Port) × (List Api_Link) × (List Api_Domain) × (List Api_Static) × (List Api_Flood) × (List Api_Vrf) × (List Api_Irb) × Nat × Nat × Nat × Nat × Int)) :=
  (palingref19_begin a1 a2 6).bind fun r3 =>
  (palingref19_Vni_J1 a1 a2 r3).bind fun r12 => match r12 with
  | v10 =>
    (palingref15_At a1 r3.1 a2.vlan).bind fun r13 =>
    (palingref19_Vni_J2 a1 a2 r3 v10 r13).bind fun r20 => match r20 with
    | v18 =>
      (palingref19_Vni_J3 a1 a2 r3 r13 v18).bind fun r31 => match r31 with
      | v29 =>
        if (v29 != 0) = true then
          some ([], [], [], [], [], [], [], [], 0, 0, 0, 0, v29)
        else
          (palingref15_Copy a1).bind fun r33 => match r33 with
          | (l35, l36, l37, l38) =>
            if (lin l36 r13) = true then
              (l36[(Int.toNat r13)]?).bind fun x40 =>
              if (lin (List.set l36 (Int.toNat r13) (⟨x40.dev, x40.vlan, a2.num, x40.irb, x40.row, x40.peers⟩ : Api_Domain)) r13) = true then
                ((List.set l36 (Int.toNat r13) (⟨x40.dev, x40.vlan, a2.num, x40.irb, x40.row, x40.peers⟩ : Api_Domain))[(Int.toNat r13)]?).bind fun x43 =>
                some (a1.devices, l35, a1.links, List.set (List.set l36 (Int.toNat r13) (⟨x40.dev, x40.vlan, a2.num, x40.irb, x40.row, x40.peers⟩ : Api_Domain)) (Int.toNat r13) (⟨x43.dev, x43.vlan, x43.vni, x43.irb, a2.row, x43.peers⟩ : Api_Domain), a1.statics, l37, l38, a1.irbs, (List.length a1.ports), (List.length a1.domains), (List.length a1.floods), (List.length a1.vrfs), 0)
              else
                none
            else
              none

def palingref19_list_L1 (a1 : Api_Net) (a2 : Int) (a3 : Int) (v4 : Int) : Option ((Int) ⊕ (Int ⊕ Unit)) :=
  if (decide (v4 < (a1.floods.length : Int))) = true then
    (nth a1.floods v4).bind fun x6 =>
    if (x6.dev == a2) = true then
      (nth a1.floods v4).bind fun x9 =>
      if (x9.vni == a3) = true then
        some (Sum.inr (Sum.inl v4))
      else
        some (Sum.inl (wr_i64 (v4 + 1)))
    else
      some (Sum.inl (wr_i64 (v4 + 1)))
  else
    some (Sum.inr (Sum.inr ()))

def palingref19_list (a1 : Api_Net) (a2 : Int) (a3 : Int) : Option (Int) :=
  (loopM (palingref19_list_L1 a1 a2 a3) 0).bind fun r15 => match r15 with
  | Sum.inl v13 =>
    some v13
  | Sum.inr () =>
    some (-1)

def palingref19_has_L1 (a1 : List Int) (a2 : Int) (v3 : Int) : Option ((Int) ⊕ (Unit ⊕ Unit)) :=
  if (decide (v3 < (a1.length : Int))) = true then
    (nth a1 v3).bind fun x5 =>
    if (x5 == a2) = true then
      some (Sum.inr (Sum.inl ()))
    else
      some (Sum.inl (wr_i64 (v3 + 1)))
  else
    some (Sum.inr (Sum.inr ()))

def palingref19_has (a1 : List Int) (a2 : Int) : Option (Bool) :=
  (loopM (palingref19_has_L1 a1 a2) 0).bind fun r9 => match r9 with
  | Sum.inl () =>
    some true
  | Sum.inr () =>
    some false

def palingref19_Flood_J1 (a1 : Api_Net) (a2 : Api_Line) (r3 : Int × Int) : Option (Int) :=
  if (r3.2 == 0) = true then
    (palingref19_Find a1 r3.1 a2.num).bind fun r6 =>
    if (decide (r6 < 0)) = true then
      some 31
    else
      some r3.2
  else
    some r3.2

def palingref19_Flood_J2 (a1 : Api_Net) (a2 : Api_Line) (r3 : Int × Int) (v10 : Int) : Option (Int) :=
  if (v10 == 0) = true then
    (palingref19_list a1 r3.1 a2.num).bind fun r14 =>
    if (decide (r14 ≥ 0)) = true then
      some 30
    else
      some v10
  else
    some v10

def palingref19_Flood_J3 (a1 : Api_Net) (a2 : Api_Line) (r3 : Int × Int) (v18 : Int) : Option (Int) :=
  if (v18 == 0) = true then
    (nth a1.devices r3.1).bind fun x22 =>
    (palingref19_has a2.addrs x22.vtep).bind fun r24 =>
    if (r24) = true then
      some 36
    else
      some v18
  else
    some v18

def palingref19_Flood_J4 (a1 : Api_Net) (a2 : Api_Line) (r3 : Int × Int) (v28 : Int) : Option (Int) :=
  if (v28 == 0) = true then
    if (decide ((a1.floods.length : Int) ≥ 48)) = true then
      some 3
    else
      some v28
  else
    some v28

def palingref19_Flood (a1 : Api_Net) (a2 : Api_Line) : Option (((List Api_Device) × (List Api_Port) × (List Api_Link) × (List Api_Domain) × (List Api_Static) × (List Api_Flood) × (List Api_Vrf) × (List Api_Irb) × Nat × Nat × Nat × Int)) :=
  (palingref19_begin a1 a2 7).bind fun r3 =>
  (palingref19_Flood_J1 a1 a2 r3).bind fun r12 => match r12 with
  | v10 =>
    (palingref19_Flood_J2 a1 a2 r3 v10).bind fun r20 => match r20 with
    | v18 =>
      (palingref19_Flood_J3 a1 a2 r3 v18).bind fun r30 => match r30 with
      | v28 =>
        (palingref19_Flood_J4 a1 a2 r3 v28).bind fun r36 => match r36 with
        | v34 =>
          if (v34 != 0) = true then
            some ([], [], [], [], [], [], [], [], 0, 0, 0, v34)
          else
            (palingref15_Copy a1).bind fun r38 => match r38 with
            | (l40, l41, l42, l43) =>
              if (roomy 4 a2.addrs) = true then
                if (roomy 48 (l42 ++ [(⟨a2.row, r3.1, a2.num, a2.addrs⟩ : Api_Flood)])) = true then
                  some (a1.devices, l40, a1.links, l41, a1.statics, l42 ++ [(⟨a2.row, r3.1, a2.num, a2.addrs⟩ : Api_Flood)], l43, a1.irbs, (List.length a1.ports), (List.length a1.domains), (List.length a1.vrfs), 0)
                else
                  none
              else
                none

def palinglaw19_OverlayPuts (a1 : Api_Net) (a2 : Api_Line) : Option (Bool) :=
  (palinglaw16_Great a1 a2).bind fun r3 =>
  if (r3) = true then
    (palinglaw19_works).bind fun r6 =>
    some r6
  else
    (overlay_Vtep a1 a2).bind fun r8 => match r8 with
    | (l10, l11, l12, l13, l14, l15, l16, l17, n18, n19, n20, n21, n22, v23) =>
      (palingref19_Vtep a1 a2).bind fun r24 => match r24 with
      | (l26, l27, l28, l29, l30, l31, l32, l33, n34, n35, n36, n37, n38, v39) =>
        (palingref15_Same (⟨l10, l11, l12, l13, l14, l15, l16, l17⟩ : Api_Net) (⟨l26, l27, l28, l29, l30, l31, l32, l33⟩ : Api_Net)).bind fun r40 =>
        if (!r40) = true then
          some false
        else
          if (v23 != v39) = true then
            some false
          else
            (overlay_Vni a1 a2).bind fun r44 => match r44 with
            | (l46, l47, l48, l49, l50, l51, l52, l53, n54, n55, n56, n57, v58) =>
              (palingref19_Vni a1 a2).bind fun r59 => match r59 with
              | (l61, l62, l63, l64, l65, l66, l67, l68, n69, n70, n71, n72, v73) =>
                (palingref15_Same (⟨l46, l47, l48, l49, l50, l51, l52, l53⟩ : Api_Net) (⟨l61, l62, l63, l64, l65, l66, l67, l68⟩ : Api_Net)).bind fun r74 =>
                if (!r74) = true then
                  some false
                else
                  if (v58 != v73) = true then
                    some false
                  else
                    (overlay_Flood a1 a2).bind fun r78 => match r78 with
                    | (l80, l81, l82, l83, l84, l85, l86, l87, n88, n89, n90, v91) =>
                      (palingref19_Flood a1 a2).bind fun r92 => match r92 with
                      | (l94, l95, l96, l97, l98, l99, l100, l101, n102, n103, n104, v105) =>
                        (palingref15_Same (⟨l80, l81, l82, l83, l84, l85, l86, l87⟩ : Api_Net) (⟨l94, l95, l96, l97, l98, l99, l100, l101⟩ : Api_Net)).bind fun r106 =>
                        if (r106) = true then
                          if (v91 == v105) = true then
                            (palinglaw19_works).bind fun r110 =>
                            some r110
                          else
                            some false
                        else
                          some false

def palingref23_Right_J2 (a1 : Api_Net) (a2 : List Int) (v7 : Int) : Option (Unit ⊕ Unit) :=
  (nth a1.ports v7).bind fun x9 =>
  if (x9.link != (-1)) = true then
    (nth a2 v7).bind fun x12 =>
    if (x12 != (-1)) = true then
      some (Sum.inl ())
    else
      some (Sum.inr ())
  else
    some (Sum.inr ())

def palingref23_Right_L1 (a1 : Api_Net) (a2 : List Int) (v7 : Int) : Option ((Int) ⊕ (Unit ⊕ Unit)) :=
  if (decide (v7 < (a2.length : Int))) = true then
    (palingref23_Right_J2 a1 a2 v7).bind fun r16 => match r16 with
    | Sum.inl () =>
      some (Sum.inr (Sum.inl ()))
    | Sum.inr () =>
      (nth a1.ports v7).bind fun x17 =>
      if (x17.link == (-1)) = true then
        (nth a2 v7).bind fun x20 =>
        if (decide (x20 < 0)) = true then
          some (Sum.inr (Sum.inl ()))
        else
          (nth a2 v7).bind fun x23 =>
          if (decide (x23 > 9)) = true then
            some (Sum.inr (Sum.inl ()))
          else
            some (Sum.inl (wr_i64 (v7 + 1)))
      else
        some (Sum.inl (wr_i64 (v7 + 1)))
  else
    some (Sum.inr (Sum.inr ()))

def palingref23_Right (a1 : Api_Net) (a2 : List Int) : Option (Bool) :=
  if ((a2.length : Int) != (a1.ports.length : Int)) = true then
    some false
  else
    (palingref15_Right a1).bind fun r4 =>
    if (!r4) = true then
      some false
    else
      (loopM (palingref23_Right_L1 a1 a2) 0).bind fun r27 => match r27 with
      | Sum.inl () =>
        some false
      | Sum.inr () =>
        some true

def palingref23_Of_L1 (a1 : List Int) (a2 : Int) (l3 : List Int) (v4 : Int) : Option (((List Int) × Int) ⊕ ((List Int))) :=
  if (decide (v4 < (a1.length : Int))) = true then
    (nth a1 v4).bind fun x6 =>
    if (x6 == a2) = true then
      if (roomy 8 (l3 ++ [v4])) = true then
        some (Sum.inl (l3 ++ [v4], wr_i64 (v4 + 1)))
      else
        none
    else
      some (Sum.inl (l3, wr_i64 (v4 + 1)))
  else
    some (Sum.inr l3)

def palingref23_Of (a1 : List Int) (a2 : Int) : Option (((List Int))) :=
  (loopM (fun s : (List Int) × Int => match s with | (l3, v4) => palingref23_Of_L1 a1 a2 l3 v4) ([], 0)).bind fun r14 => match r14 with
  | l12 =>
    some l12

def palingref30_device (a1 : Api_Net) (a2 : Int) : Option (Int) :=
  (nth a1.irbs a2).bind fun x3 =>
  (nth a1.domains x3.domain).bind fun x5 =>
  some x5.dev

def palingref02_Has (a1 : Api_Prefix) (a2 : Int) : Option (Bool) :=
  (palingref02_Right a1).bind fun r3 =>
  if (r3) = true then
    (palingref02_First a1).bind fun r6 =>
    if (decide (a2 ≥ r6)) = true then
      (palingref02_Last a1).bind fun r9 =>
      some (decide (a2 ≤ r9))
    else
      some false
  else
    some false

def palingref20_Leaks_L1 (a1 : Api_Net) (a2 : Int) (a3 : Int) (v11 : Int) : Option ((Int) ⊕ (Unit ⊕ Unit)) :=
  (nth a1.vrfs a2).bind fun x12 =>
  if (decide (v11 < (x12.exports.length : Int))) = true then
    (nth a1.vrfs a2).bind fun x15 =>
    (nth a1.vrfs a3).bind fun x17 =>
    if (x15.dev == x17.dev) = true then
      (nth a1.vrfs a3).bind fun x20 =>
      (nth a1.vrfs a2).bind fun x22 =>
      (nth x22.exports v11).bind fun x24 =>
      (palingref15_In x20.imports x24).bind fun r26 =>
      if (r26) = true then
        some (Sum.inr (Sum.inl ()))
      else
        some (Sum.inl (wr_i64 (v11 + 1)))
    else
      some (Sum.inl (wr_i64 (v11 + 1)))
  else
    some (Sum.inr (Sum.inr ()))

def palingref20_Leaks (a1 : Api_Net) (a2 : Int) (a3 : Int) : Option (Bool) :=
  (palingref15_Place a2 (a1.vrfs.length : Int)).bind fun r4 =>
  if (!r4) = true then
    some false
  else
    (palingref15_Place a3 (a1.vrfs.length : Int)).bind fun r7 =>
    if (!r7) = true then
      some false
    else
      if (a2 == a3) = true then
        some true
      else
        (loopM (palingref20_Leaks_L1 a1 a2 a3) 0).bind fun r30 => match r30 with
        | Sum.inl () =>
          some true
        | Sum.inr () =>
          some false

def palingref30_better (a1 : Api_Net) (a2 : Int) (a3 : Int) (a4 : Int) : Option (Bool) :=
  (nth a1.irbs a3).bind fun x5 =>
  (nth a1.irbs a4).bind fun x7 =>
  if (x5.net.bits != x7.net.bits) = true then
    (nth a1.irbs a3).bind fun x10 =>
    (nth a1.irbs a4).bind fun x12 =>
    some (decide (x10.net.bits > x12.net.bits))
  else
    (nth a1.irbs a3).bind fun x14 =>
    (nth a1.irbs a2).bind fun x16 =>
    if (x14.vrf == x16.vrf) = true then
      (nth a1.irbs a4).bind fun x19 =>
      (nth a1.irbs a2).bind fun x21 =>
      some (x19.vrf != x21.vrf)
    else
      some false

def palingref30_Lookup_L1 (a1 : Api_Net) (a2 : Int) (a3 : Int) (v7 : Int) (v8 : Int) : Option ((Int × Int) ⊕ (Unit ⊕ Int)) :=
  if (decide (v8 < (a1.irbs.length : Int))) = true then
    (palingref30_device a1 v8).bind fun r10 =>
    (palingref30_device a1 a2).bind fun r12 =>
    if (r10 != r12) = true then
      some (Sum.inl (v7, wr_i64 (v8 + 1)))
    else
      (nth a1.irbs v8).bind fun x15 =>
      if (x15.net.addr == a3) = true then
        some (Sum.inr (Sum.inl ()))
      else
        (nth a1.irbs v8).bind fun x18 =>
        (palingref02_Has x18.net a3).bind fun r20 =>
        if (!r20) = true then
          some (Sum.inl (v7, wr_i64 (v8 + 1)))
        else
          (nth a1.irbs v8).bind fun x23 =>
          (nth a1.irbs a2).bind fun x25 =>
          (palingref20_Leaks a1 x23.vrf x25.vrf).bind fun r27 =>
          if (!r27) = true then
            some (Sum.inl (v7, wr_i64 (v8 + 1)))
          else
            if (decide (v7 < 0)) = true then
              some (Sum.inl (v8, wr_i64 (v8 + 1)))
            else
              (palingref30_better a1 a2 v8 v7).bind fun r31 =>
              if (r31) = true then
                some (Sum.inl (v8, wr_i64 (v8 + 1)))
              else
                some (Sum.inl (v7, wr_i64 (v8 + 1)))
  else
    some (Sum.inr (Sum.inr v7))

def palingref30_Lookup (a1 : Api_Net) (a2 : Int) (a3 : Int) : Option (Int × Bool) :=
  (palingref15_Place a2 (a1.irbs.length : Int)).bind fun r4 =>
  if (!r4) = true then
    some (0, false)
  else
    (loopM (fun s : Int × Int => match s with | (v7, v8) => palingref30_Lookup_L1 a1 a2 a3 v7 v8) ((-1), 0)).bind fun r37 => match r37 with
    | Sum.inl () =>
      some (0, false)
    | Sum.inr v35 =>
      if (decide (v35 < 0)) = true then
        some (0, false)
      else
        some (v35, true)

def palingref36_taken_L1 (a1 : Api_Net) (a2 : Int) (v3 : Int) : Option ((Int) ⊕ (Unit ⊕ Unit)) :=
  if (decide (v3 < (a1.irbs.length : Int))) = true then
    (nth a1.irbs v3).bind fun x5 =>
    if (x5.net.addr == a2) = true then
      some (Sum.inr (Sum.inl ()))
    else
      some (Sum.inl (wr_i64 (v3 + 1)))
  else
    some (Sum.inr (Sum.inr ()))

def palingref36_taken (a1 : Api_Net) (a2 : Int) : Option (Bool) :=
  (loopM (palingref36_taken_L1 a1 a2) 0).bind fun r9 => match r9 with
  | Sum.inl () =>
    some true
  | Sum.inr () =>
    some false

def palingref36_Leads (a1 : Api_Net) (a2 : Int) (a3 : Int) (a4 : Int) : Option (Bool) :=
  (palingref30_Lookup a1 a2 a4).bind fun r5 =>
  if (r5.2) = true then
    if (r5.1 == a3) = true then
      (palingref36_taken a1 a4).bind fun r9 =>
      some (!r9)
    else
      some false
  else
    some false

def palingref36_Address_L1 (a1 : Api_Net) (a2 : Int) (a3 : Int) (l14 : List Int) (v15 : Int) : Option (((List Int) × Int) ⊕ ((List Int))) :=
  if (decide (v15 < (a1.irbs.length : Int))) = true then
    (nth a1.irbs v15).bind fun x17 =>
    (nth a1.irbs v15).bind fun x19 =>
    (palingref02_Last x19.net).bind fun r21 =>
    if (roomy 8 (l14 ++ [(wr_i64 ((wr_i64 x17.net.addr) + 1) : Int), (wr_i64 ((wr_i64 r21) + 1) : Int)])) = true then
      some (Sum.inl (l14 ++ [(wr_i64 ((wr_i64 x17.net.addr) + 1) : Int), (wr_i64 ((wr_i64 r21) + 1) : Int)], wr_i64 (v15 + 1)))
    else
      none
  else
    some (Sum.inr l14)

def palingref36_Address_L2 (a1 : Api_Net) (a2 : Int) (a3 : Int) (l31 : List Int) (v34 : Int) (v35 : Int) : Option ((Int × Int) ⊕ (Int)) :=
  if (decide (v35 < ((List.length l31) : Int))) = true then
    if (lin l31 v35) = true then
      (l31[(Int.toNat v35)]?).bind fun x38 =>
      if (decide (x38 < 4294967296)) = true then
        if (decide (v34 < 0)) = true then
          (palingref36_Leads a1 a2 a3 (wr_u32 x38)).bind fun r42 =>
          if (r42) = true then
            some (Sum.inl (x38, wr_i64 (v35 + 1)))
          else
            some (Sum.inl (v34, wr_i64 (v35 + 1)))
        else
          if (decide (x38 < v34)) = true then
            (palingref36_Leads a1 a2 a3 (wr_u32 x38)).bind fun r46 =>
            if (r46) = true then
              some (Sum.inl (x38, wr_i64 (v35 + 1)))
            else
              some (Sum.inl (v34, wr_i64 (v35 + 1)))
          else
            some (Sum.inl (v34, wr_i64 (v35 + 1)))
      else
        some (Sum.inl (v34, wr_i64 (v35 + 1)))
    else
      none
  else
    some (Sum.inr v34)

def palingref36_Address (a1 : Api_Net) (a2 : Int) (a3 : Int) : Option (Int × Bool) :=
  (palingref15_Place a2 (a1.irbs.length : Int)).bind fun r4 =>
  if (!r4) = true then
    some (0, false)
  else
    (palingref15_Place a3 (a1.irbs.length : Int)).bind fun r7 =>
    if (!r7) = true then
      some (0, false)
    else
      (nth a1.irbs a3).bind fun x10 =>
      (palingref02_First x10.net).bind fun r12 =>
      (loopM (fun s : (List Int) × Int => match s with | (l14, v15) => palingref36_Address_L1 a1 a2 a3 l14 v15) ([(wr_i64 r12 : Int)], 0)).bind fun r33 => match r33 with
      | l31 =>
        (loopM (fun s : Int × Int => match s with | (v34, v35) => palingref36_Address_L2 a1 a2 a3 l31 v34 v35) ((-1), 0)).bind fun r52 => match r52 with
        | v50 =>
          if (decide (v50 < 0)) = true then
            some (0, false)
          else
            some (wr_u32 v50, true)

def palingref36_Routes_L1 (a1 : Api_Net) (a2 : Int) (l9 : List Palingref36_Lead) (v10 : Int) : Option (((List Palingref36_Lead) × Int) ⊕ ((List Palingref36_Lead))) :=
  if (decide (v10 < (a1.irbs.length : Int))) = true then
    (nth a1.domains a2).bind fun x12 =>
    (palingref36_Address a1 x12.irb v10).bind fun r14 =>
    if (r14.2) = true then
      (nth a1.irbs v10).bind fun x17 =>
      if (roomy 24 (l9 ++ [(⟨v10, x17.domain, r14.1⟩ : Palingref36_Lead)])) = true then
        some (Sum.inl (l9 ++ [(⟨v10, x17.domain, r14.1⟩ : Palingref36_Lead)], wr_i64 (v10 + 1)))
      else
        none
    else
      some (Sum.inl (l9, wr_i64 (v10 + 1)))
  else
    some (Sum.inr l9)

def palingref36_Routes (a1 : Api_Net) (a2 : Int) : Option (((List Palingref36_Lead))) :=
  (palingref15_Place a2 (a1.domains.length : Int)).bind fun r3 =>
  if (!r3) = true then
    some []
  else
    (nth a1.domains a2).bind fun x6 =>
    if (x6.irb == (-1)) = true then
      some []
    else
      (loopM (fun s : (List Palingref36_Lead) × Int => match s with | (l9, v10) => palingref36_Routes_L1 a1 a2 l9 v10) ([], 0)).bind fun r24 => match r24 with
      | l22 =>
        some l22

def palingref42_reached_L2 (a1 : Api_Net) (a2 : List Int) (a3 : Int) (v6 : Int) (l10 : List Int) (l11 : List Bool) (v12 : Int) : Option (((List Bool) × Int) ⊕ ((List Bool))) :=
  if (decide (v12 < ((List.length l10) : Int))) = true then
    if (lin l11 v6) = true then
      (l11[(Int.toNat v6)]?).bind fun x15 =>
      if (x15) = true then
        (l11[(Int.toNat v6)]?).bind fun x18 =>
        some (Sum.inl (List.set l11 (Int.toNat v6) true, wr_i64 (v12 + 1)))
      else
        if (lin l10 v12) = true then
          (l10[(Int.toNat v12)]?).bind fun x21 =>
          (nth a2 x21).bind fun x23 =>
          (l11[(Int.toNat v6)]?).bind fun x25 =>
          some (Sum.inl (List.set l11 (Int.toNat v6) (x23 == a3), wr_i64 (v12 + 1)))
        else
          none
    else
      none
  else
    some (Sum.inr l11)

def palingref42_reached_L1 (a1 : Api_Net) (a2 : List Int) (a3 : Int) (l5 : List Bool) (v6 : Int) : Option (((List Bool) × Int) ⊕ ((List Bool))) :=
  if (decide (v6 < (a1.domains.length : Int))) = true then
    (palingref15_Members a1 v6).bind fun r8 => match r8 with
    | l10 =>
      (loopM (fun s : (List Bool) × Int => match s with | (l11, v12) => palingref42_reached_L2 a1 a2 a3 v6 l10 l11 v12) (l5, 0)).bind fun r37 => match r37 with
      | l35 =>
        some (Sum.inl (l35, wr_i64 (v6 + 1)))
  else
    some (Sum.inr l5)

def palingref42_reached_J6 (a1 : Api_Net) (v48 : Int) (v52 : Int) (l56 : List Palingref35_Hop) (l57 : List Bool) (l58 : List Bool) (v59 : Int) : Option ((List Bool)) :=
  if (lin l56 v59) = true then
    (l56[(Int.toNat v59)]?).bind fun x62 =>
    (l56[(Int.toNat v59)]?).bind fun x64 =>
    if (lin l57 x64.domain) = true then
      (l57[(Int.toNat x64.domain)]?).bind fun x67 =>
      if (x67) = true then
        if (lin l57 x62.domain) = true then
          (l57[(Int.toNat x62.domain)]?).bind fun x71 =>
          some (List.set l57 (Int.toNat x62.domain) true)
        else
          none
      else
        if (lin l57 v52) = true then
          (l57[(Int.toNat v52)]?).bind fun x74 =>
          if (lin l57 x62.domain) = true then
            (l57[(Int.toNat x62.domain)]?).bind fun x77 =>
            some (List.set l57 (Int.toNat x62.domain) x74)
          else
            none
        else
          none
    else
      none
  else
    none

def palingref42_reached_L5 (a1 : Api_Net) (v48 : Int) (v52 : Int) (l56 : List Palingref35_Hop) (l57 : List Bool) (l58 : List Bool) (v59 : Int) : Option (((List Bool) × (List Bool) × Int) ⊕ (((List Bool) × (List Bool)))) :=
  if (decide (v59 < ((List.length l56) : Int))) = true then
    (palingref42_reached_J6 a1 v48 v52 l56 l57 l58 v59).bind fun r90 => match r90 with
    | l88 =>
      if (lin l56 v59) = true then
        (l56[(Int.toNat v59)]?).bind fun x92 =>
        (l56[(Int.toNat v59)]?).bind fun x94 =>
        if (lin l58 x94.domain) = true then
          (l58[(Int.toNat x94.domain)]?).bind fun x97 =>
          if (x97) = true then
            if (lin l58 x92.domain) = true then
              (l58[(Int.toNat x92.domain)]?).bind fun x101 =>
              some (Sum.inl (l88, List.set l58 (Int.toNat x92.domain) true, wr_i64 (v59 + 1)))
            else
              none
          else
            if (lin l58 v52) = true then
              (l58[(Int.toNat v52)]?).bind fun x104 =>
              if (lin l58 x92.domain) = true then
                (l58[(Int.toNat x92.domain)]?).bind fun x107 =>
                some (Sum.inl (l88, List.set l58 (Int.toNat x92.domain) x104, wr_i64 (v59 + 1)))
              else
                none
            else
              none
        else
          none
      else
        none
  else
    some (Sum.inr (l57, l58))

def palingref42_reached_L4 (a1 : Api_Net) (v48 : Int) (l50 : List Bool) (l51 : List Bool) (v52 : Int) : Option (((List Bool) × (List Bool) × Int) ⊕ (((List Bool) × (List Bool)))) :=
  if (decide (v52 < (a1.domains.length : Int))) = true then
    (palingref35_Hops a1 v52).bind fun r54 => match r54 with
    | l56 =>
      (loopM (fun s : (List Bool) × (List Bool) × Int => match s with | (l57, l58, v59) => palingref42_reached_L5 a1 v48 v52 l56 l57 l58 v59) (l50, l51, 0)).bind fun r126 => match r126 with
      | (l123, l124) =>
        some (Sum.inl (l123, l124, wr_i64 (v52 + 1)))
  else
    some (Sum.inr (l50, l51))

def palingref42_reached_L8 (a1 : Api_Net) (v48 : Int) (l139 : List Bool) (v144 : Int) (l149 : List Palingref36_Lead) (l150 : List Bool) (v151 : Int) : Option (((List Bool) × Int) ⊕ ((List Bool))) :=
  if (decide (v151 < ((List.length l149) : Int))) = true then
    if (lin l149 v151) = true then
      (l149[(Int.toNat v151)]?).bind fun x154 =>
      (l149[(Int.toNat v151)]?).bind fun x156 =>
      if (lin l150 x156.domain) = true then
        (l150[(Int.toNat x156.domain)]?).bind fun x159 =>
        if (x159) = true then
          if (lin l150 x154.domain) = true then
            (l150[(Int.toNat x154.domain)]?).bind fun x163 =>
            some (Sum.inl (List.set l150 (Int.toNat x154.domain) true, wr_i64 (v151 + 1)))
          else
            none
        else
          if (lin l139 v144) = true then
            (l139[(Int.toNat v144)]?).bind fun x166 =>
            if (lin l150 x154.domain) = true then
              (l150[(Int.toNat x154.domain)]?).bind fun x169 =>
              some (Sum.inl (List.set l150 (Int.toNat x154.domain) x166, wr_i64 (v151 + 1)))
            else
              none
          else
            none
      else
        none
    else
      none
  else
    some (Sum.inr l150)

def palingref42_reached_L7 (a1 : Api_Net) (v48 : Int) (l139 : List Bool) (l143 : List Bool) (v144 : Int) : Option (((List Bool) × Int) ⊕ ((List Bool))) :=
  if (decide (v144 < (a1.domains.length : Int))) = true then
    if (v48 == (a1.domains.length : Int)) = true then
      (palingref36_Routes a1 v144).bind fun r147 => match r147 with
      | l149 =>
        (loopM (fun s : (List Bool) × Int => match s with | (l150, v151) => palingref42_reached_L8 a1 v48 l139 v144 l149 l150 v151) (l143, 0)).bind fun r180 => match r180 with
        | l178 =>
          some (Sum.inl (l178, wr_i64 (v144 + 1)))
    else
      some (Sum.inr l143)
  else
    some (Sum.inr l143)

def palingref42_reached_L3 (a1 : Api_Net) (l46 : List Bool) (l47 : List Bool) (v48 : Int) : Option (((List Bool) × (List Bool) × Int) ⊕ (((List Bool) × (List Bool)))) :=
  if (decide (v48 < (wr_i64 (2 * (a1.domains.length : Int))))) = true then
    (loopM (fun s : (List Bool) × (List Bool) × Int => match s with | (l50, l51, v52) => palingref42_reached_L4 a1 v48 l50 l51 v52) (l46, l47, 0)).bind fun r142 => match r142 with
    | (l139, l140) =>
      (loopM (fun s : (List Bool) × Int => match s with | (l143, v144) => palingref42_reached_L7 a1 v48 l139 l143 v144) (l140, 0)).bind fun r189 => match r189 with
      | l187 =>
        some (Sum.inl (l139, l187, wr_i64 (v48 + 1)))
  else
    some (Sum.inr (l46, l47))

def palingref42_reached (a1 : Api_Net) (a2 : List Int) (a3 : Int) : Option (((List Bool) × (List Bool))) :=
  if (mkok 1 (a1.domains.length : Int) (a1.domains.length : Int)) = true then
    (loopM (fun s : (List Bool) × Int => match s with | (l5, v6) => palingref42_reached_L1 a1 a2 a3 l5 v6) (List.replicate (Int.toNat (a1.domains.length : Int)) false, 0)).bind fun r45 => match r45 with
    | l43 =>
      (loopM (fun s : (List Bool) × (List Bool) × Int => match s with | (l46, l47, v48) => palingref42_reached_L3 a1 l46 l47 v48) (l43, List.replicate (Int.toNat (a1.domains.length : Int)) false, 0)).bind fun r201 => match r201 with
      | (l198, l199) =>
        some (l198, l199)
  else
    none

def palingref42_powers : Option ((Unit)) :=
  some ()

def palingref42_All_J3 (a1 : Api_Net) (a2 : List Int) (v8 : Int) (l16 : List Bool) (l17 : List Bool) (l18 : List Palingref42_Label) (v19 : Int) : Option ((List Palingref42_Label)) :=
  if (lin l16 v19) = true then
    (l16[(Int.toNat v19)]?).bind fun x22 =>
    if (x22) = true then
      if (lin l18 v19) = true then
        (l18[(Int.toNat v19)]?).bind fun x26 =>
        (palingref42_powers).bind fun r28 => match r28 with
        | () =>
          if (lin [(1 : Int), (2 : Int), (4 : Int), (8 : Int), (16 : Int), (32 : Int), (64 : Int), (128 : Int), (256 : Int), (512 : Int)] v8) = true then
            ([(1 : Int), (2 : Int), (4 : Int), (8 : Int), (16 : Int), (32 : Int), (64 : Int), (128 : Int), (256 : Int), (512 : Int)][(Int.toNat v8)]?).bind fun x31 =>
            (l18[(Int.toNat v19)]?).bind fun x33 =>
            some (List.set l18 (Int.toNat v19) (⟨wr_i64 (x26.plain + x31), x33.led⟩ : Palingref42_Label))
          else
            none
      else
        none
    else
      some l18
  else
    none

def palingref42_All_L2 (a1 : Api_Net) (a2 : List Int) (v8 : Int) (l16 : List Bool) (l17 : List Bool) (l18 : List Palingref42_Label) (v19 : Int) : Option (((List Palingref42_Label) × Int) ⊕ ((List Palingref42_Label))) :=
  if (decide (v19 < ((Int.toNat (a1.domains.length : Int)) : Int))) = true then
    (palingref42_All_J3 a1 a2 v8 l16 l17 l18 v19).bind fun r46 => match r46 with
    | l44 =>
      if (lin l17 v19) = true then
        (l17[(Int.toNat v19)]?).bind fun x48 =>
        if (x48) = true then
          if (lin l44 v19) = true then
            (l44[(Int.toNat v19)]?).bind fun x52 =>
            (palingref42_powers).bind fun r54 => match r54 with
            | () =>
              if (lin [(1 : Int), (2 : Int), (4 : Int), (8 : Int), (16 : Int), (32 : Int), (64 : Int), (128 : Int), (256 : Int), (512 : Int)] v8) = true then
                ([(1 : Int), (2 : Int), (4 : Int), (8 : Int), (16 : Int), (32 : Int), (64 : Int), (128 : Int), (256 : Int), (512 : Int)][(Int.toNat v8)]?).bind fun x57 =>
                (l44[(Int.toNat v19)]?).bind fun x59 =>
                some (Sum.inl (List.set l44 (Int.toNat v19) (⟨x59.plain, wr_i64 (x52.led + x57)⟩ : Palingref42_Label), wr_i64 (v19 + 1)))
              else
                none
          else
            none
        else
          some (Sum.inl (l44, wr_i64 (v19 + 1)))
      else
        none
  else
    some (Sum.inr l18)

def palingref42_All_L1 (a1 : Api_Net) (a2 : List Int) (l7 : List Palingref42_Label) (v8 : Int) : Option (((List Palingref42_Label) × Int) ⊕ ((List Palingref42_Label))) :=
  if (decide (v8 < 10)) = true then
    (palingref23_Of a2 v8).bind fun r10 => match r10 with
    | l12 =>
      if (((List.length l12) : Int) == 0) = true then
        some (Sum.inl (l7, wr_i64 (v8 + 1)))
      else
        (palingref42_reached a1 a2 v8).bind fun r14 => match r14 with
        | (l16, l17) =>
          (loopM (fun s : (List Palingref42_Label) × Int => match s with | (l18, v19) => palingref42_All_L2 a1 a2 v8 l16 l17 l18 v19) (l7, 0)).bind fun r69 => match r69 with
          | l67 =>
            some (Sum.inl (l67, wr_i64 (v8 + 1)))
  else
    some (Sum.inr l7)

def palingref42_All (a1 : Api_Net) (a2 : List Int) : Option (((List Palingref42_Label) × Nat × Bool)) :=
  (palingref23_Right a1 a2).bind fun r3 =>
  if (!r3) = true then
    some ([], 0, false)
  else
    if (mkok 16 (a1.domains.length : Int) (a1.domains.length : Int)) = true then
      (loopM (fun s : (List Palingref42_Label) × Int => match s with | (l7, v8) => palingref42_All_L1 a1 a2 l7 v8) (List.replicate (Int.toNat (a1.domains.length : Int)) (⟨0, 0⟩ : Palingref42_Label), 0)).bind fun r75 => match r75 with
      | l73 =>
        some (l73, (Int.toNat (a1.domains.length : Int)), true)
    else
      none

def palingref42_Has (a1 : Int) (a2 : Int) : Option (Bool) :=
  if (decide (a2 < 0)) = true then
    some false
  else
    if (decide (a2 > 9)) = true then
      some false
    else
      if (decide (a1 < 0)) = true then
        (palingref42_powers).bind fun r6 => match r6 with
        | () =>
          if (lin [(1 : Int), (2 : Int), (4 : Int), (8 : Int), (16 : Int), (32 : Int), (64 : Int), (128 : Int), (256 : Int), (512 : Int)] a2) = true then
            ([(1 : Int), (2 : Int), (4 : Int), (8 : Int), (16 : Int), (32 : Int), (64 : Int), (128 : Int), (256 : Int), (512 : Int)][(Int.toNat a2)]?).bind fun x9 =>
            if (x9 != 0) = true then
              some ((Int.tmod (wr_i64 (Int.tdiv (wr_i64 ((wr_i64 ((wr_i64 (a1 + 512)) - (wr_i64 ((wr_i64 (Int.tdiv a1 1024)) * 1024)))) + 512)) x9)) 2) == 1)
            else
              none
          else
            none
      else
        (palingref42_powers).bind fun r12 => match r12 with
        | () =>
          if (lin [(1 : Int), (2 : Int), (4 : Int), (8 : Int), (16 : Int), (32 : Int), (64 : Int), (128 : Int), (256 : Int), (512 : Int)] a2) = true then
            ([(1 : Int), (2 : Int), (4 : Int), (8 : Int), (16 : Int), (32 : Int), (64 : Int), (128 : Int), (256 : Int), (512 : Int)][(Int.toNat a2)]?).bind fun x15 =>
            if (x15 != 0) = true then
              some ((Int.tmod (wr_i64 (Int.tdiv a1 x15)) 2) == 1)
            else
              none
          else
            none

def palingref42_Ports_L3 (a1 : Api_Net) (l5 : List Palingref42_Label) (n6 : Nat) (v11 : Int) (l13 : List Int) (v14 : Int) (v19 : Bool) (v20 : Int) : Option ((Bool × Int) ⊕ (Bool)) :=
  if (decide (v20 < (n6 : Int))) = true then
    (palingref15_Members a1 v20).bind fun r22 => match r22 with
    | l24 =>
      (palingref15_In l24 v11).bind fun r25 =>
      if (v19) = true then
        some (Sum.inl (true, wr_i64 (v20 + 1)))
      else
        if (r25) = true then
          if (lin l5 v20) = true then
            (l5[(Int.toNat v20)]?).bind fun x30 =>
            (palingref42_Has x30.plain v14).bind fun r32 =>
            if (r32) = true then
              some (Sum.inl (true, wr_i64 (v20 + 1)))
            else
              (l5[(Int.toNat v20)]?).bind fun x35 =>
              (palingref42_Has x35.led v14).bind fun r37 =>
              some (Sum.inl (r37, wr_i64 (v20 + 1)))
          else
            none
        else
          some (Sum.inl (false, wr_i64 (v20 + 1)))
  else
    some (Sum.inr v19)

def palingref42_Ports_L2 (a1 : Api_Net) (l5 : List Palingref42_Label) (n6 : Nat) (v11 : Int) (l13 : List Int) (v14 : Int) : Option (((List Int) × Int) ⊕ ((List Int))) :=
  if (decide (v14 < 10)) = true then
    (nth a1.ports v11).bind fun x16 =>
    if (x16.link == (-1)) = true then
      (loopM (fun s : Bool × Int => match s with | (v19, v20) => palingref42_Ports_L3 a1 l5 n6 v11 l13 v14 v19 v20) (false, 0)).bind fun r42 => match r42 with
      | v40 =>
        if (v40) = true then
          if (lin l13 v11) = true then
            (l13[(Int.toNat v11)]?).bind fun x45 =>
            (palingref42_powers).bind fun r47 => match r47 with
            | () =>
              if (lin [(1 : Int), (2 : Int), (4 : Int), (8 : Int), (16 : Int), (32 : Int), (64 : Int), (128 : Int), (256 : Int), (512 : Int)] v14) = true then
                ([(1 : Int), (2 : Int), (4 : Int), (8 : Int), (16 : Int), (32 : Int), (64 : Int), (128 : Int), (256 : Int), (512 : Int)][(Int.toNat v14)]?).bind fun x50 =>
                (l13[(Int.toNat v11)]?).bind fun x52 =>
                some (Sum.inl (List.set l13 (Int.toNat v11) (wr_i64 (x45 + x50) : Int), wr_i64 (v14 + 1)))
              else
                none
          else
            none
        else
          some (Sum.inl (l13, wr_i64 (v14 + 1)))
    else
      some (Sum.inr l13)
  else
    some (Sum.inr l13)

def palingref42_Ports_L1 (a1 : Api_Net) (l5 : List Palingref42_Label) (n6 : Nat) (l10 : List Int) (v11 : Int) : Option (((List Int) × Int) ⊕ ((List Int))) :=
  if (decide (v11 < (a1.ports.length : Int))) = true then
    (loopM (fun s : (List Int) × Int => match s with | (l13, v14) => palingref42_Ports_L2 a1 l5 n6 v11 l13 v14) (l10, 0)).bind fun r62 => match r62 with
    | l60 =>
      some (Sum.inl (l60, wr_i64 (v11 + 1)))
  else
    some (Sum.inr l10)

def palingref42_Ports (a1 : Api_Net) (a2 : List Int) : Option (((List Int) × Nat × Bool)) :=
  (palingref42_All a1 a2).bind fun r3 => match r3 with
  | (l5, n6, v7) =>
    if (!v7) = true then
      some ([], 0, false)
    else
      if (mkok 8 (a1.ports.length : Int) (a1.ports.length : Int)) = true then
        (loopM (fun s : (List Int) × Int => match s with | (l10, v11) => palingref42_Ports_L1 a1 l5 n6 l10 v11) (List.replicate (Int.toNat (a1.ports.length : Int)) (0 : Int), 0)).bind fun r68 => match r68 with
        | l66 =>
          some (l66, (Int.toNat (a1.ports.length : Int)), true)
      else
        none

def palinglaw42_LabelsTells_L1 (a1 : Api_Net) (a2 : List Int) (l13 : List Labels_Label) (n14 : Nat) (v15 : Bool) (l18 : List Palingref42_Label) (n19 : Nat) (v20 : Bool) (v23 : Int) : Option ((Int) ⊕ (Unit ⊕ Unit)) :=
  if (decide (v23 < (n14 : Int))) = true then
    if (lin l13 v23) = true then
      (l13[(Int.toNat v23)]?).bind fun x26 =>
      if (lin l18 v23) = true then
        (l18[(Int.toNat v23)]?).bind fun x29 =>
        if (!(eq_Palingref42_Label (⟨x26.plain, x26.led⟩ : Palingref42_Label) x29)) = true then
          some (Sum.inr (Sum.inl ()))
        else
          some (Sum.inl (wr_i64 (v23 + 1)))
      else
        none
    else
      none
  else
    some (Sum.inr (Sum.inr ()))

def palinglaw42_LabelsTells (a1 : Api_Net) (a2 : List Int) : Option (Bool) :=
  (palinglaw15_Great a1).bind fun r3 =>
  if (r3) = true then
    (palinglaw42_works).bind fun r6 =>
    some r6
  else
    if (decide ((a2.length : Int) > 300)) = true then
      (palinglaw42_works).bind fun r9 =>
      some r9
    else
      (labels_All a1 a2).bind fun r11 => match r11 with
      | (l13, n14, v15) =>
        (palingref42_All a1 a2).bind fun r16 => match r16 with
        | (l18, n19, v20) =>
          if ((n14 : Int) != (n19 : Int)) = true then
            some false
          else
            if (!(v15 == v20)) = true then
              some false
            else
              (loopM (palinglaw42_LabelsTells_L1 a1 a2 l13 n14 v15 l18 n19 v20) 0).bind fun r33 => match r33 with
              | Sum.inl () =>
                some false
              | Sum.inr () =>
                (labels_Ports a1 a2).bind fun r34 => match r34 with
                | (l36, n37, v38) =>
                  (palingref42_Ports a1 a2).bind fun r39 => match r39 with
                  | (l41, n42, v43) =>
                    (palingref03_Ints l36 l41).bind fun r44 =>
                    if (r44) = true then
                      if (v38 == v43) = true then
                        (palinglaw42_works).bind fun r48 =>
                        some r48
                      else
                        some false
                    else
                      some false

def labels_Domains_L1 (a3 : Int) (l6 : List Labels_Label) (n7 : Nat) (l9 : List Int) (l10 : List Int) (v11 : Int) : Option (((List Int) × (List Int) × Int) ⊕ (((List Int) × (List Int)))) :=
  if (decide (v11 < (n7 : Int))) = true then
    if (lin l6 v11) = true then
      (l6[(Int.toNat v11)]?).bind fun x14 =>
      (labels_has x14.plain a3).bind fun r16 =>
      if (r16) = true then
        if (roomy 8 (l9 ++ [v11])) = true then
          (labels_has x14.led a3).bind fun r20 =>
          if (r20) = true then
            if (roomy 8 (l10 ++ [v11])) = true then
              some (Sum.inl (l9 ++ [v11], l10 ++ [v11], wr_i64 (v11 + 1)))
            else
              none
          else
            some (Sum.inl (l9 ++ [v11], l10, wr_i64 (v11 + 1)))
        else
          none
      else
        (labels_has x14.led a3).bind fun r24 =>
        if (r24) = true then
          if (roomy 8 (l10 ++ [v11])) = true then
            some (Sum.inl (l9, l10 ++ [v11], wr_i64 (v11 + 1)))
          else
            none
        else
          some (Sum.inl (l9, l10, wr_i64 (v11 + 1)))
    else
      none
  else
    some (Sum.inr (l9, l10))

def labels_Domains (a1 : Api_Net) (a2 : List Int) (a3 : Int) : Option (((List Int) × (List Int))) :=
  (labels_All a1 a2).bind fun r4 => match r4 with
  | (l6, n7, v8) =>
    (loopM (fun s : (List Int) × (List Int) × Int => match s with | (l9, l10, v11) => labels_Domains_L1 a3 l6 n7 l9 l10 v11) ([], [], 0)).bind fun r35 => match r35 with
    | (l32, l33) =>
      some (l32, l33)

def palingref42_Domains_J2 (a3 : Int) (l6 : List Palingref42_Label) (n7 : Nat) (l9 : List Int) (l10 : List Int) (v11 : Int) : Option ((List Int)) :=
  if (lin l6 v11) = true then
    (l6[(Int.toNat v11)]?).bind fun x14 =>
    (palingref42_Has x14.plain a3).bind fun r16 =>
    if (r16) = true then
      if (roomy 8 (l9 ++ [v11])) = true then
        some (l9 ++ [v11])
      else
        none
    else
      some l9
  else
    none

def palingref42_Domains_L1 (a3 : Int) (l6 : List Palingref42_Label) (n7 : Nat) (l9 : List Int) (l10 : List Int) (v11 : Int) : Option (((List Int) × (List Int) × Int) ⊕ (((List Int) × (List Int)))) :=
  if (decide (v11 < (n7 : Int))) = true then
    (palingref42_Domains_J2 a3 l6 n7 l9 l10 v11).bind fun r29 => match r29 with
    | l27 =>
      if (lin l6 v11) = true then
        (l6[(Int.toNat v11)]?).bind fun x31 =>
        (palingref42_Has x31.led a3).bind fun r33 =>
        if (r33) = true then
          if (roomy 8 (l10 ++ [v11])) = true then
            some (Sum.inl (l27, l10 ++ [v11], wr_i64 (v11 + 1)))
          else
            none
        else
          some (Sum.inl (l27, l10, wr_i64 (v11 + 1)))
      else
        none
  else
    some (Sum.inr (l9, l10))

def palingref42_Domains (a1 : Api_Net) (a2 : List Int) (a3 : Int) : Option (((List Int) × (List Int))) :=
  (palingref42_All a1 a2).bind fun r4 => match r4 with
  | (l6, n7, v8) =>
    (loopM (fun s : (List Int) × (List Int) × Int => match s with | (l9, l10, v11) => palingref42_Domains_L1 a3 l6 n7 l9 l10 v11) ([], [], 0)).bind fun r48 => match r48 with
    | (l45, l46) =>
      some (l45, l46)

def palingref42_Names_L1 (a1 : Int) (l2 : List Int) (v3 : Int) : Option (((List Int) × Int) ⊕ ((List Int))) :=
  if (decide (v3 < 10)) = true then
    (palingref42_Has a1 v3).bind fun r5 =>
    if (r5) = true then
      if (roomy 8 (l2 ++ [v3])) = true then
        some (Sum.inl (l2 ++ [v3], wr_i64 (v3 + 1)))
      else
        none
    else
      some (Sum.inl (l2, wr_i64 (v3 + 1)))
  else
    some (Sum.inr l2)

def palingref42_Names (a1 : Int) : Option (((List Int))) :=
  (loopM (fun s : (List Int) × Int => match s with | (l2, v3) => palingref42_Names_L1 a1 l2 v3) ([], 0)).bind fun r13 => match r13 with
  | l11 =>
    some l11

def palinglaw42_LabelsLists (a1 : Api_Net) (a2 : List Int) (a3 : Int) (a4 : Int) : Option (Bool) :=
  (palinglaw15_Great a1).bind fun r5 =>
  if (r5) = true then
    (palinglaw42_works).bind fun r8 =>
    some r8
  else
    if (decide ((a2.length : Int) > 300)) = true then
      (palinglaw42_works).bind fun r11 =>
      some r11
    else
      (labels_Domains a1 a2 a3).bind fun r13 => match r13 with
      | (l15, l16) =>
        (palingref42_Domains a1 a2 a3).bind fun r17 => match r17 with
        | (l19, l20) =>
          (palingref03_Ints l15 l19).bind fun r21 =>
          if (r21) = true then
            (palingref03_Ints l16 l20).bind fun r24 =>
            if (r24) = true then
              (labels_Names (wr_i64 a4)).bind fun r27 => match r27 with
              | l29 =>
                (palingref42_Names (wr_i64 a4)).bind fun r30 => match r30 with
                | l32 =>
                  (palingref03_Ints l29 l32).bind fun r33 =>
                  if (r33) = true then
                    (palinglaw42_works).bind fun r36 =>
                    some r36
                  else
                    some false
            else
              some false
          else
            some false

end Go.Eng
