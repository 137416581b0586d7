/- The engine, part 14: words for the printed mirrors, and what their proofs use. -/
import Derived.Test.YtcclngfmkodgjaaGreatEng13
set_option linter.unusedVariables false
set_option linter.unusedSectionVars false
namespace Go.Eng
open Go
variable {D : Den} [Gl D]

/-! ### Words of the mirrors -/
def nth {α : Type} (l : List α) (i : Int) : Option α := if 0 ≤ i then l[i.toNat]? else none
def ptok (n j m : Nat) : Bool := decide (0 < n ∧ j + m ≤ n)
def ptwok (n j m : Nat) : Bool := decide (0 < n ∧ j + m = n)
def joinTx (l : List ByteArray) (sep : ByteArray) : ByteArray := ⟨(sep.data.toList.intercalate (l.map (·.data.toList))).toArray⟩
def joinok (l : List ByteArray) (sep : ByteArray) : Bool := decide (0 < l.length ∧ l.length ≤ 140737488355328 ∧ (sep.data.toList.intercalate (l.map (·.data.toList))).length ≤ 140737488355328)
def lin {α : Type} (l : List α) (i : Int) : Bool := decide (0 ≤ i ∧ i < l.length)
def roomy {α : Type} (bytes : Nat) (l : List α) : Bool := decide (l.length * bytes ≤ 140737488355328 ∧ l.length < 9223372036854775808)
def mkok (bytes : Nat) (n m : Int) : Bool := decide (0 ≤ n ∧ n ≤ m ∧ m * bytes ≤ 140737488355328 ∧ m < 9223372036854775808)
def slok (n : Nat) (a b : Int) : Bool := decide (0 ≤ a ∧ a ≤ b ∧ b ≤ n)
def wr_i64 (n : Int) : Int := IntKind.i64.wrap n
def wr_u8 (n : Int) : Int := IntKind.u8.wrap n
def wr_u32 (n : Int) : Int := IntKind.u32.wrap n
def wr_u64 (n : Int) : Int := IntKind.u64.wrap n
def bits_and (k : IntKind) (x y : Int) : Int := k.wrap (BitVec.ofInt k.bits x &&& BitVec.ofInt k.bits y).toNat
def bits_or (k : IntKind) (x y : Int) : Int := k.wrap (BitVec.ofInt k.bits x ||| BitVec.ofInt k.bits y).toNat
def bits_xor (k : IntKind) (x y : Int) : Int := k.wrap (BitVec.ofInt k.bits x ^^^ BitVec.ofInt k.bits y).toNat
def bits_andNot (k : IntKind) (x y : Int) : Int := k.wrap (BitVec.ofInt k.bits x &&& ~~~(BitVec.ofInt k.bits y)).toNat

def bstr (l : List Int) : ByteArray := ⟨(l.map fun n => UInt8.ofNat n.toNat).toArray⟩
def sadok (x y : ByteArray) : Bool := decide (((x.size + y.size : Nat) : Int) ≤ IntKind.i64.max)
def seqB (x y : ByteArray) : Bool := x.toList == y.toList
/-! ### What an argument's parts hold -/
def okI (k : IntKind) (n : Int) : Prop := k.min ≤ n ∧ n ≤ k.max
def okB (_ : Bool) : Prop := True
def okS (s : ByteArray) : Prop := s.size ≤ maxLen
def okL {α : Type} (ok : α → Prop) (l : List α) : Prop := l.length ≤ maxLen ∧ ∀ x ∈ l, ok x

/-! ### What their proofs use -/
theorem ite_out {α : Type} {c : Bool} {a b x : α} (h : (if c = true then a else b) = x) : (c = true ∧ a = x) ∨ (c = false ∧ b = x) := by
  cases c
  · exact .inr ⟨rfl, by simpa using h⟩
  · exact .inl ⟨rfl, by simpa using h⟩
theorem bind_out {α β : Type} {o : Option α} {f : α → Option β} {r : β} (h : o.bind f = some r) : ∃ v, o = some v ∧ f v = some r := Option.bind_eq_some_iff.1 h
theorem pn : AllP [] := trivial
theorem pc {p : Prop} {ps : List Prop} (h : p) (hs : AllP ps) : AllP (p :: ps) := ⟨h, hs⟩
theorem nth_out {α : Type} {l : List α} {i : Int} {v : α} (h : nth l i = some v) : 0 ≤ i ∧ l[i.toNat]? = some v := by
  unfold nth at h; split at h
  · exact ⟨by assumption, h⟩
  · cases h
theorem lin_ob {α : Type} {l : List α} {i : Int} (h : lin l i = true) : 0 ≤ i ∧ i < l.length := of_decide_eq_true h
theorem sl_ob {n : Nat} {a b : Int} (h : slok n a b = true) : 0 ≤ a ∧ a ≤ b ∧ b ≤ n := of_decide_eq_true h
def subC : Code → List Nat → Code
  | .seq a _, 0 :: p => subC a p
  | .seq _ b, _ :: p => subC b p
  | .cond _ a _, 0 :: p => subC a p
  | .cond _ _ b, _ :: p => subC b p
  | .block _ b, _ :: p => subC b p
  | .loop b, _ :: p => subC b p
  | .scope b, _ :: p => subC b p
  | c, _ => c
def codeOf (f : Func) : Code := f.body.getD .skip

section
variable {P : Program} {U : Univ D} {k N : Nat}
theorem loop_sound2 {σ ρ : Type} {b : Code} (f : σ → Option (σ ⊕ ρ)) (embF : σ → Fr D) (embH : σ → Heap D) (exO : ρ → Ex) (outF : ρ → Fr D) (outH : ρ → Heap D)
    (hround : ∀ s q, f s = some q → ExecOK P U k N b (embF s) (embH s) (match q with | .inl _ => .nor | .inr r => exO r) (match q with | .inl s' => embF s' | .inr r => outF r) (match q with | .inl s' => embH s' | .inr r => outH r))
    (hne : ∀ r, exO r ≠ .nor) {s : σ} {r : ρ} (h : loopM f s = some r) : ExecOK P U k N (.loop b) (embF s) (embH s) (exO r) (outF r) (outH r) :=
  loop_sound f embF embH exO outF outH (fun s s' h => hround s (.inl s') h) (fun s r h => hround s (.inr r) h) hne h
def LoopOK (P : Program) (U : Univ D) (k N : Nat) (b : Code) {σ ρ : Type} (f : σ → Option (σ ⊕ ρ)) (F : σ → Fr D) (H : σ → Heap D) (x : ρ → Ex) (oF : ρ → Fr D) (oH : ρ → Heap D) : Prop :=
  ∀ (s : σ) (r : ρ), loopM f s = some r → ExecOK P U k N (.loop b) (F s) (H s) (x r) (oF r) (oH r)
theorem loop_sound3 {σ ρ : Type} {b : Code} {f : σ → Option (σ ⊕ ρ)} {F : σ → Fr D} {H : σ → Heap D} {x : ρ → Ex} {oF : ρ → Fr D} {oH : ρ → Heap D}
    (hround : ∀ s q, f s = some q → ExecOK P U k N b (F s) (H s) (match q with | .inl _ => .nor | .inr r => x r) (match q with | .inl s' => F s' | .inr r => oF r) (match q with | .inl s' => H s' | .inr r => oH r))
    (hne : ∀ r, x r ≠ .nor) : LoopOK P U k N b f F H x oF oH := fun _ _ h => loop_sound2 f F H x oF oH hround hne h
end
end Go.Eng
