/- The engine, part 2: the abstract operations. -/
import Derived.Test.YtcclngfmkodgjaaGreatEng1
import Derived.Deep.AppendSrc
import Derived.Laws.Cells
import Derived.Laws.CopyRow
set_option linter.unusedVariables false
set_option linter.unusedSectionVars false
namespace Go.Eng
open Go
variable {D : Den} [Gl D]

abbrev Fr (D : Den) := List (Nat × AV D)
def look : Fr D → Nat → AV D
  | [], _ => .un
  | (k, a) :: r, s => match Nat.beq k s with | true => a | false => look r s

inductive Ex where
  | nor | exit (id : Nat) | ret

inductive Ans (D : Den) : Type where
  | dec (b : Bool)
  | row (r : List (AV D))
  | obj (ids : List Nat) (o : AObj D)
  | sl (a : AV D)
  | callv (r : AV D)
  | callf (ids : List Nat) (r : AV D)
  | callm (ids : List Nat) (r : AV D) (h : Heap D)
  | sum (live : List Nat) (ids : List Nat) (ex : Ex) (fr : Fr D) (hp : Heap D)
  | cut (live : List Nat) (ids : List Nat) (ex : Ex) (fr : Fr D) (hp : Heap D)
  | skp
  | frz (ids : List Nat)
  | callo (r : AV D) (h : Heap D)
  | gdp (id : Nat)
  | gop (id i : Nat) (b : Bool) (row : List (AV D))
  | gcl (id : Nat) (b : Bool) (o : AObj D)
  | gfz (id : Nat)

structure Res (D : Den) : Type where
  obl : List Prop
  val : AV D
  hp : Heap D
  pi : List (Ans D)

def AllP : List Prop → Prop
  | [] => True
  | p :: r => p ∧ AllP r
theorem AllP_append {a b : List Prop} : AllP (a ++ b) ↔ AllP a ∧ AllP b := by
  induction a with
  | nil => simp [AllP]
  | cons p r ih => simp [AllP, ih, and_assoc]

def constCell : Value → AV D
  | .bool b => .db b
  | x => .v x
def kinds (P : Program) : Nat → Nat → List (Option Nat)
  | 0, _ => []
  | n + 1, t => match P.underlying t with
    | some (.slice e) => [some e]
    | some (.struct fs) => fs.toList.flatMap fun f => kinds P n f.type
    | some (.array k e) => (List.replicate k (kinds P n e)).flatten
    | _ => [none]
def zc1 : Value → List (Option Nat) → AV D
  | .slice none 0 0, some e :: _ => .em e
  | x, _ => constCell x
def zcells : List Value → List (Option Nat) → List (AV D)
  | x :: r, k => zc1 x k :: zcells r k.tail
  | [], _ => []
def constA (P : Program) (ty : Nat) : Value → AV D
  | .slice none 0 0 => match P.underlying ty with | some (.slice e) => .em e | _ => .v (.slice none 0 0)
  | .bool b => .db b
  | .agg cs => .agg (zcells cs.toList (kinds P 10 ty))
  | x => .v x
def evalC (P : Program) (fr : Fr D) (ty : Nat) : Operand → AV D
  | .tmp t => look fr t
  | .const x => constA P ty x
  | .global g => match Gl.row (D := D) g with | some r => .rp r 0 | none => .un
  | .func f => .fn (.func f) [] []
def cellsA : AV D → List (AV D)
  | .agg cs => cs
  | a => [a]
def toV : AV D → Option Value
  | .v x => some x
  | .db b => some (.bool b)
  | _ => none
def okVal : AV D → Bool
  | .un => false
  | .v (.agg _) => false
  | _ => true
def pureRun {α : Type} (P : Program) : Sem α → Option α
  | .pure a => some a
  | .program k => pureRun P (k P)
  | _ => none
theorem pureRun_run {α : Type} {P : Program} {s : Sem α} {a : α} (h : pureRun P s = some a) (w : World) : s.run P w = .ok a w := by
  induction s with
  | pure x => simp [pureRun] at h; simp [h]
  | program k ih => simp only [pureRun] at h; simpa [Sem.run] using ih P h
  | _ => simp [pureRun] at h

def zval (P : Program) (t : Nat) : Option (AV D) :=
  match P.info? t with
  | some i => match i.zero with
    | some (.agg cs) => some (.agg (zcells cs.toList (kinds P 10 t)))
    | some x => match zcells [x] (kinds P 10 t) with
      | [a] => some a
      | _ => none
    | none => none
  | none => none

def matRow : Nat → List (AV D) → Heap D × List (AV D)
  | _, [] => ([], [])
  | n, .em t :: r => match matRow (n + 1) r with | (a, b) => (.arr t [] 0 false :: a, .os n 0 :: b)
  | n, a :: r => match matRow n r with | (x, y) => (x, a :: y)

def allocBox (hp : Heap D) (e : Nat) (a : AV D) (π : List (Ans D)) : Res D :=
  match matRow hp.length (cellsA a) with
  | (news, row) => ⟨[], .op (hp.length + news.length) 1 0 0, hp ++ news ++ [.box e row false], π⟩

def fieldOff (P : Program) (s f : Nat) : Option Nat :=
  match P.underlying s with
  | some (.struct fs) => match fs[f]? with
    | some fd => match P.cellsOf fd.type with
      | 0 => none
      | _ => some fd.offset
    | none => none
  | _ => none
def isAggT (P : Program) (t : Nat) : Option Bool :=
  match P.underlying t with
  | some (.struct _) => some true
  | some (.array _ _) => some true
  | some _ => some false
  | none => none
def sizeT (P : Program) (t : Nat) : Option Nat := (P.info? t).map (·.size)

def ld (P : Program) (t off : Nat) (row : List (AV D)) : Option (AV D) :=
  match isAggT P t with
  | some true => match sizeT P t with
    | some n => match Nat.ble (off + n) row.length with
      | true => some (.agg ((row.drop off).take n))
      | false => none
    | none => none
  | some false => row[off]?
  | none => none

def loadA (P : Program) (U : Univ D) (hp : Heap D) (t : Nat) (π : List (Ans D)) : AV D → Option (Res D)
  | .rp row off => match ld P t off row with
    | some a => some ⟨[], a, hp, π⟩
    | none => none
  | .op id n i off => match hp[id]? with
    | some (.box _ row _) => match Nat.beq n 1 with
      | true => match Nat.beq i 0 with
        | true => match ld P t off row with
          | some a => some ⟨[], a, hp, π⟩
          | none => none
        | false => none
      | false => none
    | some (.arr e l ln _) => match π with
      | .row r :: π' => match ld P t off r with
        | some a => some ⟨[n = ln ∧ ∃ x, l[i]? = some x ∧ U.cells e x = r], a, hp, π'⟩
        | none => none
      | _ => none
    | some (.dp e l pm (some (i0, row)) ln) => match ld P t off row with
      | some a => some ⟨[n = ln ∧ i = i0], a, hp, π⟩
      | none => none
    | _ => none
  | _ => none

def splice (row : List (AV D)) (off : Nat) (cs : List (AV D)) : List (AV D) := row.take off ++ cs ++ row.drop (off + cs.length)

def vw (hp : Heap D) (ids : List Nat) : Nat → AV D → List Prop × AV D
  | 0, _ => ([], .un)
  | k + 1, .os id n => match ids.contains id with
    | true => match hp[id]? with
      | some (.arr t l ln _) => ([n = ln], .sl t l)
      | _ => ([], .un)
    | false => ([], .un)
  | k + 1, .op id n i off => match ids.contains id with
    | true => match hp[id]? with
      | some (.box e row _) => match Nat.beq n 1 with
        | true => match Nat.beq i 0 with
          | true => ((row.map (vw hp ids k)).flatMap (·.1), .rp ((row.map (vw hp ids k)).map (·.2)) off)
          | false => ([], .un)
        | false => ([], .un)
      | _ => ([], .un)
    | false => ([], .un)
  | k + 1, .agg cs => ((cs.map (vw hp ids k)).flatMap (·.1), .agg ((cs.map (vw hp ids k)).map (·.2)))
  | k + 1, .tup cs => ((cs.map (vw hp ids k)).flatMap (·.1), .tup ((cs.map (vw hp ids k)).map (·.2)))
  | k + 1, .fn f a b => ((a.map (vw hp ids k)).flatMap (·.1) ++ (b.map (vw hp ids k)).flatMap (·.1), .fn f ((a.map (vw hp ids k)).map (·.2)) ((b.map (vw hp ids k)).map (·.2)))
  | k + 1, .em t => ([], .sl t [])
  | k + 1, .sn _ t l => ([], .sl t l)
  | k + 1, .oss id n a b => match ids.contains id with
    | true => match hp[id]? with
      | some (.arr t l ln _) => ([n = ln], .sl t ((l.take b).drop a))
      | _ => ([], .un)
    | false => ([], .un)
  | k + 1, .db b => ([], .v (.bool b))
  | k + 1, .rp row off => ([], .rp row off)
  | k + 1, a => ([], a)
def srcA (hp : Heap D) (ids : List Nat) (y : AV D) : List Prop × AV D :=
  match ids, y with
  | [], .os id n => match hp[id]? with
    | some (.arr t l ln _) => ([n = ln], .sl t l)
    | _ => ([], .un)
  | [], .oss id n a b => match hp[id]? with
    | some (.arr t l ln _) => ([n = ln], .sl t ((l.take b).drop a))
    | _ => ([], .un)
  | ids, y => vw hp ids 8 y
def vws (hp : Heap D) (ids : List Nat) (cs : List (AV D)) : List Prop × List (AV D) := ((cs.map (vw hp ids 8)).flatMap (·.1), (cs.map (vw hp ids 8)).map (·.2))

def frzAt : Heap D → Nat → Heap D
  | [], _ => []
  | o :: r, 0 => o.freeze :: r
  | o :: r, n + 1 => o :: frzAt r n
def frzAll (hp : Heap D) : List Nat → Heap D
  | [] => hp
  | i :: r => frzAll (frzAt hp i) r
def setO : Heap D → Nat → AObj D → Heap D
  | [], _, _ => []
  | _ :: r, 0, x => x :: r
  | o :: r, n + 1, x => o :: setO r n x

def storeA (P : Program) (U : Univ D) (hp : Heap D) (t : Nat) (x : AV D) (π : List (Ans D)) : AV D → Option (Res D)
  | .op id n i off => match sizeT P t with
    | none => none
    | some k => match Nat.beq k (cellsA x).length with
      | false => none
      | true => match hp[id]? with
        | some (.box e row false) => match Nat.beq n 1, Nat.beq i 0, Nat.ble (off + k) row.length, (cellsA x).all okCell with
          | true, true, true, true => match matRow hp.length (cellsA x) with
            | (news, cs) => some ⟨[], .v (.tuple #[]), setO hp id (.box e (splice row off cs) false) ++ news, π⟩
          | _, _, _, _ => none
        | some (.arr e l ln false) => match π with
          | .row r :: .obj ids o' :: π' => match Nat.ble (off + k) r.length, (cellsA x).all okCell, ids.contains id with
            | true, true, false => match vws hp ids (cellsA x) with
              | (ps, cs) => some ⟨(n = ln ∧ (∃ x, l[i]? = some x ∧ U.cells e x = r) ∧ ∃ y : D e, o' = .arr e (l.set i y) ln false ∧ U.cells e y = splice r off cs) :: ps, .v (.tuple #[]), setO (frzAll hp ids) id o', π'⟩
            | _, _, _ => none
          | _ => none
        | some (.dp e l pm (some (i0, row)) ln) => match Nat.ble (off + k) row.length, (cellsA x).all okCell with
          | true, true => match matRow hp.length (cellsA x) with
            | (news, cs) => some ⟨[n = ln ∧ i = i0], .v (.tuple #[]), setO hp id (.dp e l pm (some (i0, splice row off cs)) ln) ++ news, π⟩
          | _, _ => none
        | _ => none
  | _ => none


def bytesT (P : Program) (t : Nat) : Nat := P.bytesOf t

def fillA (P : Program) (fs : Array Field) : List (AV D) → List (Nat × AV D) → Option (List (AV D))
  | row, [] => some row
  | row, (i, a) :: r => match fs[i]? with
    | some f => match sizeT P f.type with
      | some k => match Nat.beq k (cellsA a).length, Nat.ble (f.offset + k) row.length with
        | true, true => fillA P fs (splice row f.offset (cellsA a)) r
        | _, _ => none
      | none => none
    | none => none

def partsOk (w : Nat) : Nat → List (Nat × AV D) → Bool
  | _, [] => true
  | n, (i, a) :: r => match Nat.beq i n, Nat.beq (cellsA a).length w with
    | true, true => partsOk w (n + 1) r
    | _, _ => false

def buildR (P : Program) (t n e : Nat) (parts : List (Nat × AV D)) : Option (AV D) :=
  match zval (D := D) P t, sizeT P e with
  | some z, some sz => match okVal z, parts.all (fun q => okVal q.2), partsOk sz 0 parts, Nat.beq (cellsA z).length (parts.length * sz) with
    | true, true, true, true => some (.agg (parts.flatMap fun q => cellsA q.2))
    | _, _, _, _ => none
  | _, _ => none

def buildA (P : Program) (t : Nat) (parts : List (Nat × AV D)) : Option (AV D) :=
  match P.underlying t with
  | some (.struct fs) => match zval (D := D) P t with
    | some z => match okVal z, parts.all (fun q => okVal q.2), fs.toList.all (fun f => (P.info? f.type).isSome) with
      | true, true, true => match fillA P fs (cellsA z) parts with
        | some row => some (.agg row)
        | none => none
      | _, _, _ => none
    | none => none
  | some (.array n e) => buildR P t n e parts
  | _ => none

def binA (P : Program) (op : BinOp) (xt : Nat) (a b : Value) (hp : Heap D) (x y : Operand) (π : List (Ans D)) : Option (Res D) :=
  match op, a, b with
  | .quo, .int k m, .int k' n => match k == k' with
    | true => some ⟨[n ≠ 0], .v (.int k (k.wrap (m.tdiv n))), hp, π⟩
    | false => none
  | .rem, .int k m, .int k' n => match k == k' with
    | true => some ⟨[n ≠ 0], .v (.int k (m.tmod n)), hp, π⟩
    | false => none
  | .shl, .int k m, .int _ n => some ⟨[0 ≤ n], .v (.int k (k.wrap (m * 2 ^ (min n.toNat k.bits)))), hp, π⟩
  | .shr, .int k m, .int _ n => some ⟨[0 ≤ n], .v (.int k (m.fdiv (2 ^ (min n.toNat k.bits)))), hp, π⟩
  | .add, .string s, .string t => some ⟨[((s.size + t.size : Nat) : Int) ≤ IntKind.i64.max], .v (.string (s ++ t)), hp, π⟩
  | op, a, b => match pureRun P (do eqGuard op xt x y a b; binOp op xt a b) with
    | some v => some ⟨[], .v v, hp, π⟩
    | none => none

def sliceElem (P : Program) (t : Nat) : Option Nat :=
  match P.underlying t with
  | some (.slice e) => some e
  | _ => none

def eqF (P : Program) (e : Nat → AV D → AV D → Option Bool) (xs ys : List (AV D)) : List Field → Option Bool
  | [] => some true
  | f :: fs => match f.name == "_", ld P f.type f.offset xs, ld P f.type f.offset ys with
    | false, some a, some b => match e f.type a b, eqF P e xs ys fs with
      | some r, some q => some (r && q)
      | _, _ => none
    | _, _, _ => none
def eqV (P : Program) (t : Nat) (a b : AV D) : Option Bool :=
  match toV a, toV b, P.underlying t with
  | some (.int k m), some (.int k' n), some (.int _) => match k == k' with
    | true => some (m == n)
    | false => none
  | some (.bool m), some (.bool n), some .bool => some (m == n)
  | some (.string m), some (.string n), some .string => some (m.toList == n.toList)
  | _, _, _ => none
def eqC (P : Program) : Nat → Nat → AV D → AV D → Option Bool
  | 0, _, _, _ => none
  | k + 1, t, .agg xs, .agg ys => match P.underlying t, P.stoodInHeld t with
    | some (.struct fs), false => eqF P (eqC P k) xs ys fs.toList
    | _, _ => none
  | _ + 1, t, a, b => eqV P t a b
def isNilC : Operand → Bool
  | .const (.slice none 0 0) => true
  | _ => false
def vld : AObj D → Nat → Option (List Prop)
  | .box _ _ _, n => match Nat.beq n 1 with | true => some [] | false => none
  | .arr _ _ ln _, n => some [n = ln]
  | .dp _ _ _ _ ln, n => some [n = ln]
  | .dead _ _, _ => none
def ptrElem (P : Program) (t : Nat) : Option Nat :=
  match P.underlying t with
  | some (.pointer e) => match P.info? e with
    | some _ => some e
    | none => none
  | _ => none
def cmpA (P : Program) (op : BinOp) (t : Nat) (a b : AV D) (y : Operand) (hp : Heap D) (π : List (Ans D)) : Option (Res D) :=
  match a, b with
  | .agg xs, .agg ys => match P.eqGuardType P.depth t, eqC P 10 t (.agg xs) (.agg ys), op with
    | false, some r, .eql => some ⟨[], .v (.bool r), hp, π⟩
    | false, some r, .neq => some ⟨[], .v (.bool !r), hp, π⟩
    | _, _, _ => none
  | .sn z _ _, _ => match isNilC y, sliceElem P t, op with
    | true, some _, .eql => some ⟨[], .db z, hp, π⟩
    | true, some _, .neq => some ⟨[], .db !z, hp, π⟩
    | _, _, _ => none
  | .op id n _ _, .v (.pointer none) => match hp[id]?, ptrElem P t, op with
    | some ob, some _, .eql => match vld ob n with
      | some ps => some ⟨ps, .db false, hp, π⟩
      | none => none
    | some ob, some _, .neq => match vld ob n with
      | some ps => some ⟨ps, .db true, hp, π⟩
      | none => none
    | _, _, _ => none
  | .op id n i off, .op id2 n2 i2 off2 => match Nat.beq id id2, Nat.beq i i2, Nat.beq off off2 with
    | true, true, true => match hp[id]?, ptrElem P t, op with
      | some ob, some _, .eql => match vld ob n, vld ob n2 with
        | some ps, some qs => some ⟨ps ++ qs, .db true, hp, π⟩
        | _, _ => none
      | some ob, some _, .neq => match vld ob n, vld ob n2 with
        | some ps, some qs => some ⟨ps ++ qs, .db false, hp, π⟩
        | _, _ => none
      | _, _, _ => none
    | _, _, _ => none
  | _, _ => none

def scalar : Nat → AV D → Bool
  | _, .v _ => true
  | _, .db _ => true
  | n + 1, .agg cs => cs.all (scalar n)
  | n + 1, .tup cs => cs.all (scalar n)
  | _, _ => false

def idx (ids : List Nat) (j : Nat) : Option Nat := ids.findIdx? (Nat.beq j)

def ren (ρ : Nat → Option Nat) : Nat → AV D → AV D
  | 0, _ => .un
  | k + 1, .os id n => match ρ id with | some j => .os j n | none => .un
  | k + 1, .op id n i off => match ρ id with | some j => .op j n i off | none => .un
  | k + 1, .oss id n a b => match ρ id with | some j => .oss j n a b | none => .un
  | k + 1, .agg cs => .agg (cs.map (ren ρ k))
  | k + 1, .tup cs => .tup (cs.map (ren ρ k))
  | k + 1, .fn f a b => .fn f (a.map (ren ρ k)) (b.map (ren ρ k))
  | k + 1, .db b => .v (.bool b)
  | k + 1, a => a
def renO (ρ : Nat → Option Nat) : AObj D → AObj D
  | .arr t l n f => .arr t l n f
  | .box e row f => .box e (row.map (ren ρ 8)) f
  | .dp t l pm op n => .dp t l pm (op.map fun q => (q.1, q.2.map (ren ρ 8))) n
  | .dead n t => .dead n t
def sub (hp : Heap D) (ρ : Nat → Option Nat) : List Nat → Option (Heap D)
  | [] => some []
  | i :: r => match hp[i]?, sub hp ρ r with
    | some o, some h => some (renO ρ o :: h)
    | _, _ => none


def callable (P : Program) (f : FuncId) : Prop := ∃ fn, P.funcs[f]? = some fn ∧ (fn.name == "runtime.NumGoroutine") = false ∧ fn.body.isNone = false

def CallsOK (P : Program) (U : Univ D) (f : FuncId) (args : List (AV D)) (h : Heap D) (r : AV D) (h' : Heap D) : Prop :=
  callable P f ∧ ∀ (w : World) (E : Emb) (vs : List Value), Inv U w E h → RepL U w E h vs args →
    Calls P f ⟨vs⟩ w fun e w' => ∃ v E', e = .returned v ∧ Inv U w' E' h' ∧ Step U w E h w' E' h' ∧ Rep U w' E' h' v r

def argsA (P : Program) (fr : Fr D) (tys : List Nat) : List Operand → List (AV D)
  | [] => []
  | x :: r => evalC P fr (tys.headD 0) x :: argsA P fr tys.tail r

def backρ (ids : List Nat) (n j : Nat) : Option Nat :=
  match ids[j]? with
  | some i => some i
  | none => some (n + (j - ids.length))
def writeBack (ρ : Nat → Option Nat) : Heap D → List Nat → Heap D → Option (Heap D)
  | hp, [], h' => some (hp ++ h'.map (renO ρ))
  | hp, i :: r, o :: h' => writeBack ρ (setO hp i (renO ρ o)) r h'
  | _, _ :: _, [] => none
def nodup : List Nat → Bool
  | [] => true
  | a :: r => !r.contains a && nodup r

def immC : AV D → Bool
  | .v _ => true
  | _ => false
def ownOk : Nat → AV D → Bool
  | _, .v _ => true
  | _, .db _ => true
  | _, .os _ _ => true
  | n + 1, .agg cs => cs.all (ownOk n)
  | n + 1, .tup cs => cs.all (ownOk n)
  | _, _ => false
def immH (U : Univ D) : Heap D → Option (List Prop)
  | [] => some []
  | .arr t l _ false :: r => match immH U r with
    | some ps => some (((flatL U t l).all immC = true) :: ps)
    | none => none
  | _ :: _ => none

def callA (P : Program) (U : Univ D) (hp : Heap D) (args : List (AV D)) (π : List (Ans D)) : AV D → Option (Res D)
  | .fn (.func k) first cap => match π with
    | .callv r :: π' => match scalar 4 r with
      | true => match vws hp (List.range hp.length) (first ++ args ++ cap) with
        | (ps, as) => some ⟨CallsOK P U k as [] r [] :: ps, r, hp, π'⟩
      | false => none
    | .callf ids r :: π' => match vws hp ids (first ++ args ++ cap) with
      | (ps, as) => some ⟨CallsOK P U k as [] r [] :: ps, r, frzAll hp ids, π'⟩
    | .callm ids r h' :: π' => match sub hp (idx ids) ids, nodup ids, Nat.ble ids.length h'.length with
      | some h, true, true => match writeBack (backρ ids hp.length) hp ids h' with
        | some hp' => some ⟨[CallsOK P U k ((first ++ args ++ cap).map (ren (idx ids) 8)) h r h'], ren (backρ ids hp.length) 8 r, hp', π'⟩
        | none => none
      | _, _, _ => none
    | .callo r h' :: π' => match immH U h', ownOk 4 r with
      | some qs, true => match vws hp (List.range hp.length) (first ++ args ++ cap) with
        | (ps, as) => some ⟨CallsOK P U k as [] r h' :: (qs ++ ps), ren (backρ [] hp.length) 8 r, hp ++ h'.map (renO (backρ [] hp.length)), π'⟩
      | _, _ => none
    | _ => none
  | _ => none

def vwk (hp : Heap D) (ids : List Nat) : Nat → AV D → List Prop × AV D
  | 0, a => ([], a)
  | k + 1, .os id n => match ids.contains id with
    | true => vw hp ids (k + 1) (.os id n)
    | false => ([], .os id n)
  | k + 1, .oss id n a b => match ids.contains id with
    | true => vw hp ids (k + 1) (.oss id n a b)
    | false => ([], .oss id n a b)
  | k + 1, .op id n i off => match ids.contains id with
    | true => vw hp ids (k + 1) (.op id n i off)
    | false => ([], .op id n i off)
  | k + 1, .agg cs => ((cs.map (vwk hp ids k)).flatMap (·.1), .agg ((cs.map (vwk hp ids k)).map (·.2)))
  | k + 1, .tup cs => ((cs.map (vwk hp ids k)).flatMap (·.1), .tup ((cs.map (vwk hp ids k)).map (·.2)))
  | k + 1, .fn f a b => ((a.map (vwk hp ids k)).flatMap (·.1) ++ (b.map (vwk hp ids k)).flatMap (·.1), .fn f ((a.map (vwk hp ids k)).map (·.2)) ((b.map (vwk hp ids k)).map (·.2)))
  | _ + 1, .db b => ([], .v (.bool b))
  | _ + 1, .em t => ([], .sl t [])
  | _ + 1, a => ([], a)
def vwks (hp : Heap D) (ids : List Nat) (cs : List (AV D)) : List Prop × List (AV D) := ((cs.map (vwk hp ids 8)).flatMap (·.1), (cs.map (vwk hp ids 8)).map (·.2))
def callF (P : Program) (U : Univ D) (hp : Heap D) (args : List (AV D)) (π : List (Ans D)) (f : AV D) : Option (Res D) :=
  match π with
  | .frz fz :: π' => match vwks hp fz args, vwk hp fz 8 f with
    | (ps, as), (qs, f') => match callA P U (frzAll hp fz) as π' f' with
      | some r => some ⟨ps ++ (qs ++ r.obl), r.val, r.hp, r.pi⟩
      | none => none
  | π => callA P U hp args π f

def callG (P : Program) (U : Univ D) (hp : Heap D) (args : List (AV D)) (π : List (Ans D)) (f : AV D) : Option (Res D) :=
  match π with
  | .skp :: π' => callF P U (hp ++ (matRow hp.length args).1) (matRow hp.length args).2 π' f
  | π => callF P U hp args π f

def callE (P : Program) (U : Univ D) (hp : Heap D) (args : List (AV D)) (π : List (Ans D)) (f : AV D) : Option (Res D) :=
  match π with
  | .dec true :: π' => match f, args with
    | .fn (.func g) [] [], [a] => match P.funcs[g]? with
      | some fn => some ⟨[(fn.name == "runtime.NumGoroutine") = false ∧ fn.body.isNone = true ∧ Extern.findNext fn = none ∧ Extern.find fn = some Extern.AbiNoEscape.same], a, hp, π'⟩
      | none => none
    | _, _ => none
  | π => callG P U hp args π f

def sliceA0 (P : Program) (U : Univ D) (hp : Heap D) (x : AV D) (lo hi mx : Option (AV D)) (π : List (Ans D)) : Option (Res D) :=
  match mx, lo, hi with
  | some (.v (.int _ m)), lo, some (.v (.int _ h)) => match x with      -- s[:0:0]
    | .sl t l => match lo with
      | none => some ⟨[m = 0, h = 0], .em t, hp, π⟩
      | some (.v (.int _ l0)) => some ⟨[m = 0, h = 0, l0 = 0], .em t, hp, π⟩
      | _ => none
    | .em t => match lo with
      | none => some ⟨[m = 0, h = 0], .em t, hp, π⟩
      | some (.v (.int _ l0)) => some ⟨[m = 0, h = 0, l0 = 0], .em t, hp, π⟩
      | _ => none
    | .os id n => match hp[id]? with
      | some (.arr t l ln _) => match lo with
        | none => some ⟨[m = 0, h = 0, n = ln], .em t, hp, π⟩
        | some (.v (.int _ l0)) => some ⟨[m = 0, h = 0, l0 = 0, n = ln], .em t, hp, π⟩
        | _ => none
      | _ => none
    | _ => none
  | _, _, _ => none

def sliceU (hp : Heap D) (x : AV D) (lo hi mx : Option (AV D)) (π : List (Ans D)) : Option (Res D) :=
  match x, lo, hi, mx with
  | .os id n, some (.v (.int _ a)), some (.v (.int _ b)), some (.v (.int _ c)) => match hp[id]? with
    | some (.arr t l ln _) => some ⟨[n = ln, 0 ≤ a ∧ a ≤ b ∧ b ≤ c ∧ c ≤ l.length], .un, hp, π⟩
    | _ => none
  | _, _, _, _ => none
def sliceA (P : Program) (U : Univ D) (hp : Heap D) (x : AV D) (lo hi mx : Option (AV D)) (π : List (Ans D)) : Option (Res D) :=
  match π with
  | .frz [] :: π' => sliceU hp x lo hi mx π'
  | π => sliceA0 P U hp x lo hi mx π

def loV : Option (AV D) → Option Int
  | none => some 0
  | some (.v (.int _ a)) => some a
  | _ => none
def hiV (n : Nat) : Option (AV D) → Option Int
  | none => some n
  | some (.v (.int _ a)) => some a
  | _ => none
def sliceB (U : Univ D) (sz : Nat) (hp : Heap D) (x : AV D) (lo hi : Option (AV D)) (π : List (Ans D)) : Option (Res D) :=
  match x with
  | .sl t l => match Nat.beq sz (U.width t), loV lo, hiV l.length hi with
    | true, some a, some b => some ⟨[0 ≤ a ∧ a ≤ b ∧ b ≤ l.length], .sl t ((l.take b.toNat).drop a.toNat), hp, π⟩
    | _, _, _ => none
  | .os id n => match hp[id]? with
    | some (.arr t l ln _) => match Nat.beq sz (U.width t), loV lo, hiV l.length hi with
      | true, some a, some b => some ⟨[n = ln, 0 ≤ a ∧ a ≤ b ∧ b ≤ l.length], .oss id n a.toNat b.toNat, hp, π⟩
      | _, _, _ => none
    | _ => none
  | .oss id n a0 b0 => match hp[id]? with
    | some (.arr t l ln _) => match Nat.beq sz (U.width t), Nat.beq a0 0, loV lo, hi with
      | true, true, some a, some (.v (.int k b)) => some ⟨[n = ln, 0 < l.length ∧ 0 ≤ a ∧ a ≤ b ∧ b ≤ l.length], .oss id n a.toNat b.toNat, hp, π⟩
      | _, _, _, _ => none
    | _ => none
  | _ => none
def sliceS (hp : Heap D) (x : AV D) (lo hi : Option (AV D)) (π : List (Ans D)) : Option (Res D) :=
  match x with
  | .v (.string s) => match loV lo, hiV s.size hi with
    | some a, some b => some ⟨[0 ≤ a ∧ a ≤ b ∧ b ≤ s.size], .v (.string (s.extract a.toNat b.toNat)), hp, π⟩
    | _, _ => none
  | _ => none
def byteAt (s : ByteArray) (i : Int) : Int := ((s[i.toNat]?).getD 0).toNat
def isStrT (P : Program) (t : Nat) : Bool := match P.underlying t with | some .string => true | _ => false

def zokB (D : Den) (P : Program) (e wd : Nat) : Bool :=
  match zval (D := D) P e with
  | some z => okVal z && Nat.beq (cellsA z).length wd
  | none => false

def clearA (P : Program) (U : Univ D) (e : Nat) (hp : Heap D) (x : AV D) (π : List (Ans D)) : Option (Res D) :=
  match x with
  | .oss id n a b => match hp[id]? with
    | some (.arr t l ln false) => match π with
      | .obj [] o' :: π' => match sizeT P e, zval (D := D) P e, zokB D P e (U.width t) with
        | some sz, some z, true => match Nat.beq sz (U.width t), vws hp [] (cellsA z), (cellsA z).all okCell with
          | true, (ps, zc), true => some ⟨(n = ln ∧ ∃ y : D t, o' = .arr t (l.take a ++ (List.replicate (b - a) y ++ l.drop b)) ln false ∧ U.cells t y = zc) :: ps, .v (.tuple #[]), setO hp id o', π'⟩
          | _, _, _ => none
        | _, _, _ => none
      | _ => none
    | _ => none
  | _ => none

def rdA (hp : Heap D) : AV D → Option (List Prop × AV D)
  | .sl t l => some ([], .sl t l)
  | .em t => some ([], .sl t [])
  | .sn _ t l => some ([], .sl t l)
  | .os id n => match hp[id]? with
    | some (.arr t l ln _) => some ([n = ln], .sl t l)
    | _ => none
  | .oss id n a b => match hp[id]? with
    | some (.arr t l ln _) => some ([n = ln], .sl t ((l.take b).drop a))
    | _ => none
  | _ => none
def dstA (hp : Heap D) : AV D → Option (Nat × Nat × Nat × Nat)
  | .os id n => match hp[id]? with
    | some (.arr _ l _ _) => some (id, n, 0, l.length)
    | _ => none
  | .oss id n a b => some (id, n, a, b)
  | _ => none
def copyA (P : Program) (U : Univ D) (e : Nat) (hp : Heap D) (x y : AV D) (π : List (Ans D)) : Option (Res D) :=
  match dstA hp x, rdA hp y with
  | some (id, n, a, b), some (ps, .sl e2 l2) => match hp[id]?, π with
    | some (.arr t l ln false), .obj [] o' :: π' => match sizeT P e with
      | some sz => match Nat.beq sz (U.width t), Nat.beq (U.width e2) (U.width t) with
        | true, true => some ⟨(n = ln ∧ ∃ xs : List (D t), o' = .arr t (l.take a ++ (xs ++ l.drop (a + min l2.length (b - a)))) ln false ∧ flatL U t xs = flatL U e2 (l2.take (min l2.length (b - a)))) :: ps,
            .v (.int .i64 (min l2.length (b - a) : Nat)), setO hp id o', π'⟩
        | _, _ => none
      | none => none
    | _, _ => none
  | _, _ => none
def isU8 (P : Program) (e : Nat) : Bool := match P.underlying e with | some (.int .u8) => true | _ => false
def convB (P : Program) (U : Univ D) (hp : Heap D) (s d : Nat) (x : AV D) (π : List (Ans D)) : Option (Res D) :=
  match rdA hp x, π with
  | some (ps, .sl t l), .callv (.v (.string str)) :: π' => match sliceElem P s, isStrT P d with
    | some e, true => match isU8 P e, Nat.beq (U.width t) 1 with
      | true, true => some ⟨(∃ ns : List Int, flatL U t l = ns.map (fun n => .v (.int .u8 n)) ∧ str = ⟨(ns.map fun n => UInt8.ofNat n.toNat).toArray⟩) :: ps, .v (.string str), hp, π'⟩
      | _, _ => none
    | _, _ => none
  | _, _ => none

def convP (P : Program) (hp : Heap D) (s d : Nat) : AV D → Option (AV D)
  | .op id n i off => match hp[id]?, Nat.beq n 1, Nat.beq i 0 with
    | some (.box e row false), true, true => match P.underlying s, P.underlying d with
      | some (.pointer t), some .unsafePointer => match P.info? t, Nat.ble (off + 1) row.length with
        | some j, true => match Nat.beq j.size 0 with
          | false => some (.op id n i off)
          | true => none
        | _, _ => none
      | some .unsafePointer, some (.pointer u) => match P.info? u, liesAt P P.depth e (row.length / P.cellsOf e) off u 1 with
        | some _, true => some (.op id n i off)
        | _, _ => none
      | _, _ => none
    | _, _, _ => none
  | _ => none

def rawZ (P : Program) (e : Nat) : Option (AV D) :=
  match P.info? e with
  | some i => match i.zero with
    | some (.agg vs) => some (.agg (vs.toList.map .v))
    | _ => none
  | none => none
def usdA (hp : Heap D) (π : List (Ans D)) : AV D → Option (Res D)
  | .os id n => match hp[id]? with
    | some (.arr e l ln false) => some ⟨[n = ln ∧ 0 < l.length], .op id n 0 0, hp, π⟩
    | _ => none
  | .v (.slice none 0 0) => some ⟨[], .v (.pointer none), hp, π⟩
  | _ => none
def ustA (P : Program) (U : Univ D) (pt : Nat) (hp : Heap D) (x y : AV D) (π : List (Ans D)) : Option (Res D) :=
  match x, y with
  | .op id n i off, .v (.int .i64 m) => match hp[id]?, π with
    | some (.arr e l ln false), .callv (.v (.string str)) :: π' => match ptrElem P pt, Nat.beq i 0, Nat.beq off 0, Nat.beq (P.cellsOf e) 1, Nat.beq (U.width e) 1 with
      | some e', true, true, true, true => match Nat.beq e' e with
        | true => some ⟨[n = ln ∧ m = (l.length : Int) ∧ 0 < l.length ∧ l.length ≤ 9223372036854775807 ∧ ∃ bs : List UInt8, flatL U e l = bs.map (fun x => .v (.int .u8 x.toNat)) ∧ str = ⟨bs.toArray⟩], .v (.string str), setO hp id (.dead (ln + 1) e), π'⟩
        | false => none
      | _, _, _, _, _ => none
    | _, _ => none
  | .v (.pointer none), .v (.int .i64 0) => some ⟨[], .v (.string .empty), hp, π⟩
  | _, _ => none
def appS (P : Program) (U : Univ D) (e t2 : Nat) (hp : Heap D) (x y : AV D) (π : List (Ans D)) : Option (Res D) :=
  match x, y, isStrT P t2 with
  | .os id n, .v (.string s), true => match hp[id]? with
    | some (.arr e' l ln false) => match π with
      | .obj [] (.arr e4 l4 n4 false) :: π' => match sizeT P e, zokB D P e (U.width e'), Nat.beq (U.width e') 1, Nat.beq e e' with
        | some sz, true, true, true => match Nat.beq sz (U.width e') with
          | true => some ⟨[n = ln ∧ n4 = l.length + s.size ∧ (l.length + s.size) * bytesT P e ≤ 140737488355328 ∧ l.length + s.size < 9223372036854775808 ∧ ∃ xs, (.arr e4 l4 n4 false : AObj D) = .arr e' (l ++ xs) n4 false ∧ flatL U e' xs = (byteCells s).map .v], .os id n4, setO hp id (.arr e4 l4 n4 false), π'⟩
          | false => none
        | _, _, _, _ => none
      | _ => none
    | _ => none
  | .v (.slice none 0 0), .v (.string s), true => match π with
    | .obj [] (.arr e2 l n2 false) :: π' => match sizeT P e, zokB D P e (U.width e2), Nat.beq (U.width e2) 1, Nat.beq e e2 with
      | some sz, true, true, true => match Nat.beq sz (U.width e2) with
        | true => some ⟨[0 < s.size ∧ s.size * bytesT P e ≤ 140737488355328 ∧ s.size < 9223372036854775808 ∧ l.length = s.size ∧ n2 = s.size ∧ flatL U e2 l = (byteCells s).map .v], .os hp.length n2, hp ++ [.arr e2 l n2 false], π'⟩
        | false => none
      | _, _, _, _ => none
    | _ => none
  | _, _, _ => none

def fieldTy (P : Program) (t i : Nat) : Nat :=
  match P.underlying t with
  | some (.struct fs) => ((fs[i]?).map (·.type)).getD 0
  | _ => 0

def arrT (P : Program) (t : Nat) : Option (Nat × Nat) :=
  match P.underlying t with
  | some (.array n e) => some (n, e)
  | _ => none
def idxA (P : Program) (hp : Heap D) (t : Nat) (n : Int) (π : List (Ans D)) (x : AV D) : Option (Res D) :=
  match arrT P t, π with
  | some (len, e), .frz [k] :: π' => match sizeT P e, Nat.ble (k + 1) len with
    | some sz, true => match x with
      | .rp row off => some ⟨[n = (k : Int)], .rp row (off + k * sz), hp, π'⟩
      | .op id m i off => match hp[id]? with
        | some ob => match vld ob m with
          | some ps => some ⟨(n = (k : Int)) :: ps, .op id m i (off + k * sz), hp, π'⟩
          | none => none
        | none => none
      | _ => none
    | _, _ => none
  | _, _ => none
def idxV (P : Program) (hp : Heap D) (t : Nat) (n : Int) (π : List (Ans D)) (cs : List (AV D)) : Option (Res D) :=
  match arrT P t, π with
  | some (len, e), .frz [k] :: π' => match sizeT P e, Nat.ble (k + 1) len with
    | some sz, true => match ld P e (k * sz) cs with
      | some a => some ⟨[n = (k : Int)], a, hp, π'⟩
      | none => none
    | _, _ => none
  | _, _ => none

def prtV (ids : List Nat) (id n k : Nat) : AV D := match ids with | [] => .oss id n 0 k | _ :: _ => .os id n
def opA (P : Program) (U : Univ D) (fr : Fr D) (hp : Heap D) (ty : Nat) (π : List (Ans D)) : Op → Option (Res D)
  | .move x => some ⟨[], evalC P fr ty x, hp, π⟩
  | .assign x => match evalC P fr ty x with
    | .em t => some ⟨[], .os hp.length 0, hp ++ [.arr t [] 0 false], π⟩
    | a => some ⟨[], a, hp, π⟩
  | .pick c a b => match evalC P fr ty c with
    | .db t => some ⟨[], match t with | true => evalC P fr ty a | false => evalC P fr ty b, hp, π⟩
    | .v (.bool t) => match π with
      | .dec d :: π' => some ⟨[t = d], match d with | true => evalC P fr ty a | false => evalC P fr ty b, hp, π'⟩
      | _ => none
    | _ => none
  | .box e x => match okVal (evalC P fr e x) with
    | true => some (allocBox hp e (evalC P fr e x) π)
    | false => none
  | .alloc e => match π with
    | .frz [7, 7] :: π' => match rawZ P e with
      | some z => match okVal z with
        | true => some (allocBox hp e z π')
        | false => none
      | none => none
    | π => match zval P e with
      | some z => match okVal z with
        | true => some (allocBox hp e z π)
        | false => none
      | none => none
  | .fieldAddr s x f => match fieldOff P s f with
    | some o => match evalC P fr ty x with
      | .rp row off => some ⟨[], .rp row (off + o), hp, π⟩
      | .op id n i off => match hp[id]? with
        | some ob => match vld ob n with
          | some ps => some ⟨ps, .op id n i (off + o), hp, π⟩
          | none => none
        | none => none
      | _ => none
    | none => none
  | .indexAddr t x i => match sliceElem P t, evalC P fr ty i with
    | some e, .v (.int k n) => match evalC P fr ty x with
      | .sl t l => match π with
        | .row r :: π' => match sizeT P e with
          | some sz => match Nat.beq sz (U.width t) with
            | true => some ⟨[0 ≤ n ∧ ∃ x, l[n.toNat]? = some x ∧ U.cells t x = r], .rp r 0, hp, π'⟩
            | false => none
          | none => none
        | _ => none
      | .os id m => match hp[id]? with
        | some (.arr t l ln _) => match sizeT P e with
          | some sz => match Nat.beq sz (U.width t) with
            | true => some ⟨[m = ln ∧ 0 ≤ n ∧ n < l.length], .op id m n.toNat 0, hp, π⟩
            | false => none
          | none => none
        | some (.dp t l pm op ln) => match sizeT P e with
          | some sz => match Nat.beq sz (U.width t) with
            | true => some ⟨[m = ln ∧ 0 ≤ n ∧ n < l.length], .op id m n.toNat 0, hp, π⟩
            | false => none
          | none => none
        | _ => none
      | _ => none
    | none, .v (.int k n) => idxA P hp t n π (evalC P fr ty x)
    | _, _ => none
  | .load t x => loadA P U hp t π (evalC P fr ty x)
  | .store t p x => storeA P U hp t (evalC P fr t x) π (evalC P fr ty p)
  | .binOp op xt x y yt => match toV (evalC P fr xt x), toV (evalC P fr yt y) with
    | some a, some b => binA P op xt a b hp x y π
    | _, _ => cmpA P op xt (evalC P fr xt x) (evalC P fr yt y) y hp π
  | .unOp op xt x => match toV (evalC P fr xt x) with
    | some a => match pureRun P (Op.unary op a) with
      | some v => some ⟨[], .v v, hp, π⟩
      | none => none
    | none => none
  | .convert src dst x => match toV (evalC P fr src x) with
    | some a => match pureRun P (convert src dst a) with
      | some v => some ⟨[], .v v, hp, π⟩
      | none => none
    | none => match convP P hp src dst (evalC P fr src x) with
      | some a => some ⟨[], a, hp, π⟩
      | none => convB P U hp src dst (evalC P fr src x) π
  | .extract x i => match evalC P fr ty x with
    | .tup cs => match cs[i]? with
      | some a => some ⟨[], a, hp, π⟩
      | none => none
    | _ => none
  | .nilCheck x => match evalC P fr ty x with
    | .rp row off => some ⟨[], .rp row off, hp, π⟩
    | .op id n i off => match hp[id]? with
      | some ob => match vld ob n with
        | some ps => some ⟨ps, .op id n i off, hp, π⟩
        | none => none
      | none => none
    | .fn (.func f) a b => some ⟨[], .fn (.func f) a b, hp, π⟩
    | _ => none
  | .build t parts => match buildA P t (parts.toList.map fun q => (q.1, evalC P fr (fieldTy P t q.1) q.2)) with
    | some a => some ⟨[], a, hp, π⟩
    | none => none
  | .buildSlice t n parts => match sliceElem P t with
    | some e => match π with
      | .obj ids (.arr e' l ln false) :: π' => match sizeT P e, Nat.beq e e', partsOk (U.width e) 0 (parts.toList.map fun q => (q.1, evalC P fr e q.2)), Nat.beq n parts.size, Nat.ble n 10000, zval (D := D) P e with
        | some sz, true, true, true, true, some _ => match Nat.beq sz (U.width e), Nat.ble sz 1000, vws hp ids ((parts.toList.map fun q => (q.1, evalC P fr e q.2)).flatMap fun q => cellsA q.2) with
          | true, true, (ps, cs) => match (((parts.toList.map fun q => (q.1, evalC P fr e q.2)).flatMap fun q => cellsA q.2)).all okCell with
            | true => some ⟨(flatL U e' l = cs ∧ l.length = n ∧ ln = n) :: ps, .os hp.length ln, frzAll hp ids ++ [.arr e' l ln false], π'⟩
            | false => none
          | _, _, _ => none
        | _, _, _, _, _, _ => none
      | _ => none
    | none => none
  | .makeFunc f first cap => some ⟨[], .fn f (argsA P fr [] first.toList) (argsA P fr [] cap.toList), hp, π⟩
  | .makeSlice t l c => match sliceElem P t, evalC P fr ty l, evalC P fr ty c with
    | some e, .v (.int .i64 n), .v (.int .i64 m) => match π with
      | .obj ids (.arr e' l ln false) :: π' => match sizeT P e, zval (D := D) P e, Nat.beq e e' with
        | some sz, some z, true => match Nat.beq sz (U.width e), zokB D P e (U.width e), vws hp [] (cellsA z) with
          | true, true, (ps, zc) => some ⟨(0 ≤ n ∧ n ≤ m ∧ m * bytesT P e ≤ 140737488355328 ∧ m < 9223372036854775808 ∧ ∃ y, l = List.replicate n.toNat y ∧ U.cells e' y = zc) :: (ln = n.toNat) :: ps, .os hp.length ln, hp ++ [.arr e' l ln false], π'⟩
          | _, _, _ => none
        | _, _, _ => none
      | _ => none
    | _, _, _ => none
  | .slice t x lo hi mx => match (sliceElem P t).bind (sizeT P), mx with
    | some _, some m => sliceA P U hp (evalC P fr ty x) (lo.map (evalC P fr ty)) (hi.map (evalC P fr ty)) (some (evalC P fr ty m)) π
    | some sz, none => sliceB U sz hp (evalC P fr t x) (lo.map (evalC P fr ty)) (hi.map (evalC P fr ty)) π
    | none, none => match isStrT P t with
      | true => sliceS hp (evalC P fr t x) (lo.map (evalC P fr ty)) (hi.map (evalC P fr ty)) π
      | false => none
    | none, some _ => none
  | .index t x i => match isStrT P t, evalC P fr t x, evalC P fr ty i with
    | true, .v (.string s), .v (.int _ n) => some ⟨[0 ≤ n ∧ n < s.size], .v (.int .u8 (byteAt s n)), hp, π⟩
    | false, .agg cs, .v (.int _ n) => idxV P hp t n π cs
    | _, _, _ => none
  | .call c => match c.callee with
    | .value f => callE P U hp (argsA P fr c.argTypes.toList c.args.toList) π (evalC P fr ty f)
    | .builtin .len => match c.args.toList, c.argTypes.toList with
      | [x], [t] => match P.underlying t, evalC P fr t x with
        | some (.slice _), .sl _ l => some ⟨[], .v (.int .i64 l.length), hp, π⟩
        | some (.slice _), .em _ => some ⟨[], .v (.int .i64 0), hp, π⟩
        | some (.slice _), .v (.slice none 0 0) => some ⟨[], .v (.int .i64 0), hp, π⟩
        | some (.slice _), .os id n => match hp[id]? with
          | some (.arr _ _ ln _) => some ⟨[n = ln], .v (.int .i64 n), hp, π⟩
          | some (.dp _ _ _ _ ln) => some ⟨[n = ln], .v (.int .i64 n), hp, π⟩
          | _ => none
        | some (.slice _), .oss id n a b => match hp[id]? with
          | some (.arr _ _ ln _) => some ⟨[n = ln], .v (.int .i64 (b - a : Nat)), hp, π⟩
          | _ => none
        | some .string, .v (.string s) => some ⟨[], .v (.int .i64 s.size), hp, π⟩
        | _, _ => none
      | _, _ => none
    | .builtin .append => match c.args.toList, c.argTypes.toList with
      | [x, y], [t, t2] => match sliceElem P t, sliceElem P t2 with
        | some e, none => appS P U e t2 hp (evalC P fr t x) (evalC P fr t2 y) π
        | some e, some _ => match evalC P fr t x with
          | .os id n => match hp[id]? with
            | some (.arr e' l ln false) => match π with
              | .obj ids (.arr e4 l4 n4 false) :: π' => match sizeT P e, Nat.beq e e', ids.contains id, srcA hp ids (evalC P fr t y) with
                | some sz, true, false, (ps, .sl e2 l2) => match Nat.beq sz (U.width e'), Nat.beq (U.width e2) (U.width e'), zokB D P e (U.width e') with
                  | true, true, true => some ⟨(n = ln ∧ n4 = l4.length ∧ (l.length + l2.length) * bytesT P e ≤ 140737488355328 ∧ l.length + l2.length < 9223372036854775808 ∧ ∃ xs, (.arr e4 l4 n4 false : AObj D) = .arr e' (l ++ xs) n4 false ∧ flatL U e' xs = flatL U e2 l2) :: ps, .os id n4, setO (frzAll hp ids) id (.arr e4 l4 n4 false), π'⟩
                  | _, _, _ => none
                | _, _, _, _ => none
              | _ => none
            | _ => none
          | .em e' => match π with
            | .obj ids (.arr e2 l n2 false) :: π' => match sizeT P e, Nat.beq e e2, srcA hp ids (evalC P fr t y) with
                | some sz, true, (ps, .sl e3 l2) => match Nat.beq sz (U.width e2), Nat.beq (U.width e3) (U.width e2), zokB D P e (U.width e2) with
                  | true, true, true => some ⟨(l2.length * bytesT P e ≤ 140737488355328 ∧ l2.length < 9223372036854775808 ∧ l.length = l2.length ∧ flatL U e2 l = flatL U e3 l2 ∧ n2 = l.length) :: ps, .os hp.length n2, frzAll hp ids ++ [.arr e2 l n2 false], π'⟩
                  | _, _, _ => none
                | _, _, _ => none
            | _ => none
          | .oss id n a b => match hp[id]? with
            | some (.arr e' l ln false) => match π with
              | .obj ids (.arr e4 l4 n4 false) :: π' => match sizeT P e, Nat.beq a 0, srcA hp [] (evalC P fr t y) with
                | some sz, true, (ps, .sl e2 l2) => match Nat.beq sz (U.width e'), Nat.beq (U.width e2) (U.width e') with
                  | true, true => some ⟨(n = ln ∧ n4 = ln ∧ 0 < l.length ∧ b + l2.length ≤ l.length ∧ (ids = [] ∨ b + l2.length = l.length) ∧ ∃ xs, (.arr e4 l4 n4 false : AObj D) = .arr e' (l.take b ++ (xs ++ l.drop (b + l2.length))) n4 false ∧ flatL U e' xs = flatL U e2 l2) :: ps, prtV ids id n (b + l2.length), setO hp id (.arr e4 l4 n4 false), π'⟩
                  | _, _ => none
                | _, _, _ => none
              | _ => none
            | _ => none
          | _ => none
        | _, _ => none
      | _, _ => none
    | .builtin .unsafeSliceData => match c.args.toList, c.argTypes.toList with
      | [x], [t] => usdA hp π (evalC P fr t x)
      | _, _ => none
    | .builtin .unsafeString => match c.args.toList, c.argTypes.toList with
      | [x, y], [t, t2] => ustA P U t hp (evalC P fr t x) (evalC P fr t2 y) π
      | _, _ => none
    | .builtin .clear => match c.args.toList, c.argTypes.toList with
      | [x], [t] => match sliceElem P t with
        | some e => clearA P U e hp (evalC P fr t x) π
        | none => none
      | _, _ => none
    | .builtin .copy => match c.args.toList, c.argTypes.toList with
      | [x, y], [t, t2] => match sliceElem P t with
        | some e => copyA P U e hp (evalC P fr t x) (evalC P fr t2 y) π
        | none => none
      | _, _ => none
    | .builtin .max => match (argsA P fr c.argTypes.toList c.args.toList).map toV with
      | [some (.int k a), some (.int k' b)] => match k == k' with
        | true => some ⟨[], .v (.int k (if b > a then b else a)), hp, π⟩
        | false => none
      | _ => none
    | .builtin .min => match (argsA P fr c.argTypes.toList c.args.toList).map toV with
      | [some (.int k a), some (.int k' b)] => match k == k' with
        | true => some ⟨[], .v (.int k (if b < a then b else a)), hp, π⟩
        | false => none
      | _ => none
    | _ => none
  | _ => none

def guardA (fr : Fr D) (ops : List Oper) (π : List (Ans D)) : Option (Nat × Bool) → Option (List Prop × Bool × Fr D × List (Ans D))
  | none => some ([], true, fr, π)
  | some (j, want) => match (ops[j]?).bind (·.dst) with
    | some d => match look fr d with
      | .db b => some ([], b == want, fr, π)
      | .v (.bool b) => match π with
        | .dec c :: π' => some ([b = c], c == want, (d, .db c) :: fr, π')
        | _ => none
      | .v (.tuple _) => some ([], false, fr, π)
      | _ => none
    | none => none

def setF (fr : Fr D) : Option Nat → AV D → Fr D
  | none, _ => fr
  | some d, a => (d, a) :: fr

def dstOk (N : Nat) : Option Nat → Bool
  | none => true
  | some d => Nat.ble (d + 1) N

def runOps (P : Program) (U : Univ D) (N : Nat) (all : List Oper) : List Oper → Fr D → Heap D → List (Ans D) → Option (List Prop × Fr D × Heap D × List (Ans D))
  | [], fr, hp, π => some ([], fr, hp, π)
  | o :: rest, fr, hp, π => match dstOk N o.dst with
    | false => none
    | true => match guardA fr all π o.guard with
      | none => none
      | some (ps, true, fr1, π1) => match opA P U fr1 hp o.type π1 o.op with
        | none => none
        | some r => match runOps P U N all rest (setF fr1 o.dst r.val) r.hp r.pi with
          | none => none
          | some (qs, fr2, hp2, π2) => some (ps ++ (r.obl ++ qs), fr2, hp2, π2)
      | some (ps, false, fr1, π1) => match runOps P U N all rest (setF fr1 o.dst (.v (.tuple #[]))) hp π1 with
          | none => none
          | some (qs, fr2, hp2, π2) => some (ps ++ qs, fr2, hp2, π2)

end Go.Eng
