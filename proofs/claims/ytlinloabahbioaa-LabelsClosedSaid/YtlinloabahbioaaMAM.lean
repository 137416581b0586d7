/- Part of the proof of LabelsClosed: printed mirrors of the functions, or their contracts. No conditions. -/
import Derived.Test.YtlinloabahbioaaMAMa
set_option linter.unusedVariables false
set_option maxRecDepth 100000
namespace Go.Eng
open Go
def palingref42_reached_L5 (a1 : Api_Net) (v48 : Int) (v52 : Int) (l56 : List Palingref35_Hop) (l57 : List Bool) (l58 : List Bool) (v59 : Int) : Option (((List Bool) × (List Bool) × Int) ⊕ (((List Bool) × (List Bool)))) :=
  if (decide (v59 < ((List.length l56) : Int))) = true then
    (palingref42_reached_J6 a1 v48 v52 l56 l57 l58 v59).bind fun r90 => match r90 with
    | l88 =>
      if (lin l56 v59) = true then
        (l56[(Int.toNat v59)]?).bind fun x92 =>
        (l56[(Int.toNat v59)]?).bind fun x94 =>
        if (lin l58 x94.domain) = true then
          (l58[(Int.toNat x94.domain)]?).bind fun x97 =>
          if (x97) = true then
            if (lin l58 x92.domain) = true then
              (l58[(Int.toNat x92.domain)]?).bind fun x101 =>
              some (Sum.inl (l88, List.set l58 (Int.toNat x92.domain) true, wr_i64 (v59 + 1)))
            else
              none
          else
            if (lin l58 v52) = true then
              (l58[(Int.toNat v52)]?).bind fun x104 =>
              if (lin l58 x92.domain) = true then
                (l58[(Int.toNat x92.domain)]?).bind fun x107 =>
                some (Sum.inl (l88, List.set l58 (Int.toNat x92.domain) x104, wr_i64 (v59 + 1)))
              else
                none
            else
              none
        else
          none
      else
        none
  else
    some (Sum.inr (l57, l58))

def palingref42_reached_L4 (a1 : Api_Net) (v48 : Int) (l50 : List Bool) (l51 : List Bool) (v52 : Int) : Option (((List Bool) × (List Bool) × Int) ⊕ (((List Bool) × (List Bool)))) :=
  if (decide (v52 < (a1.domains.length : Int))) = true then
    (palingref35_Hops a1 v52).bind fun r54 => match r54 with
    | l56 =>
      (loopM (fun s : (List Bool) × (List Bool) × Int => match s with | (l57, l58, v59) => palingref42_reached_L5 a1 v48 v52 l56 l57 l58 v59) (l50, l51, 0)).bind fun r126 => match r126 with
      | (l123, l124) =>
        some (Sum.inl (l123, l124, wr_i64 (v52 + 1)))
  else
    some (Sum.inr (l50, l51))

def palingref42_reached_L8 (a1 : Api_Net) (v48 : Int) (l139 : List Bool) (v144 : Int) (l149 : List Palingref36_Lead) (l150 : List Bool) (v151 : Int) : Option (((List Bool) × Int) ⊕ ((List Bool))) :=
  if (decide (v151 < ((List.length l149) : Int))) = true then
    if (lin l149 v151) = true then
      (l149[(Int.toNat v151)]?).bind fun x154 =>
      (l149[(Int.toNat v151)]?).bind fun x156 =>
      if (lin l150 x156.domain) = true then
        (l150[(Int.toNat x156.domain)]?).bind fun x159 =>
        if (x159) = true then
          if (lin l150 x154.domain) = true then
            (l150[(Int.toNat x154.domain)]?).bind fun x163 =>
            some (Sum.inl (List.set l150 (Int.toNat x154.domain) true, wr_i64 (v151 + 1)))
          else
            none
        else
          if (lin l139 v144) = true then
            (l139[(Int.toNat v144)]?).bind fun x166 =>
            if (lin l150 x154.domain) = true then
              (l150[(Int.toNat x154.domain)]?).bind fun x169 =>
              some (Sum.inl (List.set l150 (Int.toNat x154.domain) x166, wr_i64 (v151 + 1)))
            else
              none
          else
            none
      else
        none
    else
      none
  else
    some (Sum.inr l150)

def palingref42_reached_L7 (a1 : Api_Net) (v48 : Int) (l139 : List Bool) (l143 : List Bool) (v144 : Int) : Option (((List Bool) × Int) ⊕ ((List Bool))) :=
  if (decide (v144 < (a1.domains.length : Int))) = true then
    if (v48 == (a1.domains.length : Int)) = true then
      (palingref36_Routes a1 v144).bind fun r147 => match r147 with
      | l149 =>
        (loopM (fun s : (List Bool) × Int => match s with | (l150, v151) => palingref42_reached_L8 a1 v48 l139 v144 l149 l150 v151) (l143, 0)).bind fun r180 => match r180 with
        | l178 =>
          some (Sum.inl (l178, wr_i64 (v144 + 1)))
    else
      some (Sum.inr l143)
  else
    some (Sum.inr l143)

def palingref42_reached_L3 (a1 : Api_Net) (l46 : List Bool) (l47 : List Bool) (v48 : Int) : Option (((List Bool) × (List Bool) × Int) ⊕ (((List Bool) × (List Bool)))) :=
  if (decide (v48 < (wr_i64 (2 * (a1.domains.length : Int))))) = true then
    (loopM (fun s : (List Bool) × (List Bool) × Int => match s with | (l50, l51, v52) => palingref42_reached_L4 a1 v48 l50 l51 v52) (l46, l47, 0)).bind fun r142 => match r142 with
    | (l139, l140) =>
      (loopM (fun s : (List Bool) × Int => match s with | (l143, v144) => palingref42_reached_L7 a1 v48 l139 l143 v144) (l140, 0)).bind fun r189 => match r189 with
      | l187 =>
        some (Sum.inl (l139, l187, wr_i64 (v48 + 1)))
  else
    some (Sum.inr (l46, l47))

def palingref42_reached (a1 : Api_Net) (a2 : List Int) (a3 : Int) : Option (((List Bool) × (List Bool))) :=
  if (mkok 1 (a1.domains.length : Int) (a1.domains.length : Int)) = true then
    (loopM (fun s : (List Bool) × Int => match s with | (l5, v6) => palingref42_reached_L1 a1 a2 a3 l5 v6) (List.replicate (Int.toNat (a1.domains.length : Int)) false, 0)).bind fun r45 => match r45 with
    | l43 =>
      (loopM (fun s : (List Bool) × (List Bool) × Int => match s with | (l46, l47, v48) => palingref42_reached_L3 a1 l46 l47 v48) (l43, List.replicate (Int.toNat (a1.domains.length : Int)) false, 0)).bind fun r201 => match r201 with
      | (l198, l199) =>
        some (l198, l199)
  else
    none

def palingref42_powers : Option ((Unit)) :=
  some ()

def palingref42_All_J3 (a1 : Api_Net) (a2 : List Int) (v8 : Int) (l16 : List Bool) (l17 : List Bool) (l18 : List Palingref42_Label) (v19 : Int) : Option ((List Palingref42_Label)) :=
  if (lin l16 v19) = true then
    (l16[(Int.toNat v19)]?).bind fun x22 =>
    if (x22) = true then
      if (lin l18 v19) = true then
        (l18[(Int.toNat v19)]?).bind fun x26 =>
        (palingref42_powers).bind fun r28 => match r28 with
        | () =>
          if (lin [(1 : Int), (2 : Int), (4 : Int), (8 : Int), (16 : Int), (32 : Int), (64 : Int), (128 : Int), (256 : Int), (512 : Int)] v8) = true then
            ([(1 : Int), (2 : Int), (4 : Int), (8 : Int), (16 : Int), (32 : Int), (64 : Int), (128 : Int), (256 : Int), (512 : Int)][(Int.toNat v8)]?).bind fun x31 =>
            (l18[(Int.toNat v19)]?).bind fun x33 =>
            some (List.set l18 (Int.toNat v19) (⟨wr_i64 (x26.plain + x31), x33.led⟩ : Palingref42_Label))
          else
            none
      else
        none
    else
      some l18
  else
    none

def palingref42_All_L2 (a1 : Api_Net) (a2 : List Int) (v8 : Int) (l16 : List Bool) (l17 : List Bool) (l18 : List Palingref42_Label) (v19 : Int) : Option (((List Palingref42_Label) × Int) ⊕ ((List Palingref42_Label))) :=
  if (decide (v19 < ((Int.toNat (a1.domains.length : Int)) : Int))) = true then
    (palingref42_All_J3 a1 a2 v8 l16 l17 l18 v19).bind fun r46 => match r46 with
    | l44 =>
      if (lin l17 v19) = true then
        (l17[(Int.toNat v19)]?).bind fun x48 =>
        if (x48) = true then
          if (lin l44 v19) = true then
            (l44[(Int.toNat v19)]?).bind fun x52 =>
            (palingref42_powers).bind fun r54 => match r54 with
            | () =>
              if (lin [(1 : Int), (2 : Int), (4 : Int), (8 : Int), (16 : Int), (32 : Int), (64 : Int), (128 : Int), (256 : Int), (512 : Int)] v8) = true then
                ([(1 : Int), (2 : Int), (4 : Int), (8 : Int), (16 : Int), (32 : Int), (64 : Int), (128 : Int), (256 : Int), (512 : Int)][(Int.toNat v8)]?).bind fun x57 =>
                (l44[(Int.toNat v19)]?).bind fun x59 =>
                some (Sum.inl (List.set l44 (Int.toNat v19) (⟨x59.plain, wr_i64 (x52.led + x57)⟩ : Palingref42_Label), wr_i64 (v19 + 1)))
              else
                none
          else
            none
        else
          some (Sum.inl (l44, wr_i64 (v19 + 1)))
      else
        none
  else
    some (Sum.inr l18)

def palingref42_All_L1 (a1 : Api_Net) (a2 : List Int) (l7 : List Palingref42_Label) (v8 : Int) : Option (((List Palingref42_Label) × Int) ⊕ ((List Palingref42_Label))) :=
  if (decide (v8 < 10)) = true then
    (palingref23_Of a2 v8).bind fun r10 => match r10 with
    | l12 =>
      if (((List.length l12) : Int) == 0) = true then
        some (Sum.inl (l7, wr_i64 (v8 + 1)))
      else
        (palingref42_reached a1 a2 v8).bind fun r14 => match r14 with
        | (l16, l17) =>
          (loopM (fun s : (List Palingref42_Label) × Int => match s with | (l18, v19) => palingref42_All_L2 a1 a2 v8 l16 l17 l18 v19) (l7, 0)).bind fun r69 => match r69 with
          | l67 =>
            some (Sum.inl (l67, wr_i64 (v8 + 1)))
  else
    some (Sum.inr l7)

def palingref42_All (a1 : Api_Net) (a2 : List Int) : Option (((List Palingref42_Label) × Nat × Bool)) :=
  (palingref23_Right a1 a2).bind fun r3 =>
  if (!r3) = true then
    some ([], 0, false)
  else
    if (mkok 16 (a1.domains.length : Int) (a1.domains.length : Int)) = true then
      (loopM (fun s : (List Palingref42_Label) × Int => match s with | (l7, v8) => palingref42_All_L1 a1 a2 l7 v8) (List.replicate (Int.toNat (a1.domains.length : Int)) (⟨0, 0⟩ : Palingref42_Label), 0)).bind fun r75 => match r75 with
      | l73 =>
        some (l73, (Int.toNat (a1.domains.length : Int)), true)
    else
      none

def palingref42_Has (a1 : Int) (a2 : Int) : Option (Bool) :=
  if (decide (a2 < 0)) = true then
    some false
  else
    if (decide (a2 > 9)) = true then
      some false
    else
      if (decide (a1 < 0)) = true then
        (palingref42_powers).bind fun r6 => match r6 with
        | () =>
          if (lin [(1 : Int), (2 : Int), (4 : Int), (8 : Int), (16 : Int), (32 : Int), (64 : Int), (128 : Int), (256 : Int), (512 : Int)] a2) = true then
            ([(1 : Int), (2 : Int), (4 : Int), (8 : Int), (16 : Int), (32 : Int), (64 : Int), (128 : Int), (256 : Int), (512 : Int)][(Int.toNat a2)]?).bind fun x9 =>
            if (x9 != 0) = true then
              some ((Int.tmod (wr_i64 (Int.tdiv (wr_i64 ((wr_i64 ((wr_i64 (a1 + 512)) - (wr_i64 ((wr_i64 (Int.tdiv a1 1024)) * 1024)))) + 512)) x9)) 2) == 1)
            else
              none
          else
            none
      else
        (palingref42_powers).bind fun r12 => match r12 with
        | () =>
          if (lin [(1 : Int), (2 : Int), (4 : Int), (8 : Int), (16 : Int), (32 : Int), (64 : Int), (128 : Int), (256 : Int), (512 : Int)] a2) = true then
            ([(1 : Int), (2 : Int), (4 : Int), (8 : Int), (16 : Int), (32 : Int), (64 : Int), (128 : Int), (256 : Int), (512 : Int)][(Int.toNat a2)]?).bind fun x15 =>
            if (x15 != 0) = true then
              some ((Int.tmod (wr_i64 (Int.tdiv a1 x15)) 2) == 1)
            else
              none
          else
            none

def palingref42_Ports_L3 (a1 : Api_Net) (l5 : List Palingref42_Label) (n6 : Nat) (v11 : Int) (l13 : List Int) (v14 : Int) (v19 : Bool) (v20 : Int) : Option ((Bool × Int) ⊕ (Bool)) :=
  if (decide (v20 < (n6 : Int))) = true then
    (palingref15_Members a1 v20).bind fun r22 => match r22 with
    | l24 =>
      (palingref15_In l24 v11).bind fun r25 =>
      if (v19) = true then
        some (Sum.inl (true, wr_i64 (v20 + 1)))
      else
        if (r25) = true then
          if (lin l5 v20) = true then
            (l5[(Int.toNat v20)]?).bind fun x30 =>
            (palingref42_Has x30.plain v14).bind fun r32 =>
            if (r32) = true then
              some (Sum.inl (true, wr_i64 (v20 + 1)))
            else
              (l5[(Int.toNat v20)]?).bind fun x35 =>
              (palingref42_Has x35.led v14).bind fun r37 =>
              some (Sum.inl (r37, wr_i64 (v20 + 1)))
          else
            none
        else
          some (Sum.inl (false, wr_i64 (v20 + 1)))
  else
    some (Sum.inr v19)

def palingref42_Ports_L2 (a1 : Api_Net) (l5 : List Palingref42_Label) (n6 : Nat) (v11 : Int) (l13 : List Int) (v14 : Int) : Option (((List Int) × Int) ⊕ ((List Int))) :=
  if (decide (v14 < 10)) = true then
    (nth a1.ports v11).bind fun x16 =>
    if (x16.link == (-1)) = true then
      (loopM (fun s : Bool × Int => match s with | (v19, v20) => palingref42_Ports_L3 a1 l5 n6 v11 l13 v14 v19 v20) (false, 0)).bind fun r42 => match r42 with
      | v40 =>
        if (v40) = true then
          if (lin l13 v11) = true then
            (l13[(Int.toNat v11)]?).bind fun x45 =>
            (palingref42_powers).bind fun r47 => match r47 with
            | () =>
              if (lin [(1 : Int), (2 : Int), (4 : Int), (8 : Int), (16 : Int), (32 : Int), (64 : Int), (128 : Int), (256 : Int), (512 : Int)] v14) = true then
                ([(1 : Int), (2 : Int), (4 : Int), (8 : Int), (16 : Int), (32 : Int), (64 : Int), (128 : Int), (256 : Int), (512 : Int)][(Int.toNat v14)]?).bind fun x50 =>
                (l13[(Int.toNat v11)]?).bind fun x52 =>
                some (Sum.inl (List.set l13 (Int.toNat v11) (wr_i64 (x45 + x50) : Int), wr_i64 (v14 + 1)))
              else
                none
          else
            none
        else
          some (Sum.inl (l13, wr_i64 (v14 + 1)))
    else
      some (Sum.inr l13)
  else
    some (Sum.inr l13)

def palingref42_Ports_L1 (a1 : Api_Net) (l5 : List Palingref42_Label) (n6 : Nat) (l10 : List Int) (v11 : Int) : Option (((List Int) × Int) ⊕ ((List Int))) :=
  if (decide (v11 < (a1.ports.length : Int))) = true then
    (loopM (fun s : (List Int) × Int => match s with | (l13, v14) => palingref42_Ports_L2 a1 l5 n6 v11 l13 v14) (l10, 0)).bind fun r62 => match r62 with
    | l60 =>
      some (Sum.inl (l60, wr_i64 (v11 + 1)))
  else
    some (Sum.inr l10)

def palingref42_Ports (a1 : Api_Net) (a2 : List Int) : Option (((List Int) × Nat × Bool)) :=
  (palingref42_All a1 a2).bind fun r3 => match r3 with
  | (l5, n6, v7) =>
    if (!v7) = true then
      some ([], 0, false)
    else
      if (mkok 8 (a1.ports.length : Int) (a1.ports.length : Int)) = true then
        (loopM (fun s : (List Int) × Int => match s with | (l10, v11) => palingref42_Ports_L1 a1 l5 n6 l10 v11) (List.replicate (Int.toNat (a1.ports.length : Int)) (0 : Int), 0)).bind fun r68 => match r68 with
        | l66 =>
          some (l66, (Int.toNat (a1.ports.length : Int)), true)
      else
        none

def palinglaw42_LabelsTells_L1 (a1 : Api_Net) (a2 : List Int) (l13 : List Labels_Label) (n14 : Nat) (v15 : Bool) (l18 : List Palingref42_Label) (n19 : Nat) (v20 : Bool) (v23 : Int) : Option ((Int) ⊕ (Unit ⊕ Unit)) :=
  if (decide (v23 < (n14 : Int))) = true then
    if (lin l13 v23) = true then
      (l13[(Int.toNat v23)]?).bind fun x26 =>
      if (lin l18 v23) = true then
        (l18[(Int.toNat v23)]?).bind fun x29 =>
        if (!(eq_Palingref42_Label (⟨x26.plain, x26.led⟩ : Palingref42_Label) x29)) = true then
          some (Sum.inr (Sum.inl ()))
        else
          some (Sum.inl (wr_i64 (v23 + 1)))
      else
        none
    else
      none
  else
    some (Sum.inr (Sum.inr ()))

def palinglaw42_LabelsTells (a1 : Api_Net) (a2 : List Int) : Option (Bool) :=
  (palinglaw15_Great a1).bind fun r3 =>
  if (r3) = true then
    (palinglaw42_works).bind fun r6 =>
    some r6
  else
    if (decide ((a2.length : Int) > 300)) = true then
      (palinglaw42_works).bind fun r9 =>
      some r9
    else
      (labels_All a1 a2).bind fun r11 => match r11 with
      | (l13, n14, v15) =>
        (palingref42_All a1 a2).bind fun r16 => match r16 with
        | (l18, n19, v20) =>
          if ((n14 : Int) != (n19 : Int)) = true then
            some false
          else
            if (!(v15 == v20)) = true then
              some false
            else
              (loopM (palinglaw42_LabelsTells_L1 a1 a2 l13 n14 v15 l18 n19 v20) 0).bind fun r33 => match r33 with
              | Sum.inl () =>
                some false
              | Sum.inr () =>
                (labels_Ports a1 a2).bind fun r34 => match r34 with
                | (l36, n37, v38) =>
                  (palingref42_Ports a1 a2).bind fun r39 => match r39 with
                  | (l41, n42, v43) =>
                    (palingref03_Ints l36 l41).bind fun r44 =>
                    if (r44) = true then
                      if (v38 == v43) = true then
                        (palinglaw42_works).bind fun r48 =>
                        some r48
                      else
                        some false
                    else
                      some false

end Go.Eng
