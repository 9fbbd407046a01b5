/- An evaluator of the code of the model, and the first part of the proof that it is right. No condition. -/
import Derived.LoopN
import Derived.Below
import Derived.Laws.OwnMore
import Derived.Laws.MakeOwn
import Derived.Orders
import Derived.KernelRfl
import Derived.Laws.Strings
import Derived.Laws.Slices
import Derived.Laws.StructEq
import Derived.Laws.Entries
import Derived.Laws.Rows
import Derived.WalkKit
/- An abstract evaluator of the program's code: plain values as they are, slices as lists of rows, variables in memory as lists of cells. What it answers is shown sound in the text EvSound. No condition. -/
namespace Go.Proofs.YtpanhndkcnojpaaDoor.Ev
open Go
/-- Data: what a slice's rows, an argument and a result are told as. -/
inductive D where
  | j
  | i (n : Int)
  | b (b : Bool)
  | s (s : ByteArray)
  | l (xs : List (List D))
def D.int : D → Int | .i x => x | _ => 0
def D.bool : D → Bool | .b x => x | _ => false
def D.str : D → ByteArray | .s x => x | _ => .empty
def D.rows : D → List (List D) | .l x => x | _ => []
/-- The kind of a cell. -/
inductive K where
  | int (k : IntKind)
  | bool
  | str
  | sl (e : TypeId)
/-- A cell, as the evaluator knows it: nothing; this very value; a slice (own: 0 only read, 1 the call's own row, 2 a row that came in to be written); what lies in cell j of slot d. -/
inductive Cell where
  | u
  | v (x : Value)
  | sl (own : Nat) (e : TypeId) (xs : List (List D))
  | ref (d j : Nat)
/-- A slot: nothing; a value out of cells; a tuple; the pointer to a variable of the call's own (its cells); a pointer into the variable of slot d; a pointer into row i of the slice at cell j of slot d; a pointer to cells that are only read; a function. -/
inductive AV where
  | u
  | p (agg : Bool) (cs : List Cell)
  | tup (ps : List (Bool × List Cell))
  | box (own : Bool) (cs : List Cell)
  | pat (d o : Nat)
  | pel (d j : Nat) (i : Int) (o : Nat)
  | ro (cs : List Cell) (o : Nat)
  | fn (f : Nat)
abbrev St := List (Nat × AV)
def get : St → Nat → AV
  | [], _ => .u
  | (i, a) :: r, t => bif Nat.beq i t then a else get r t
/-- A decision tree, with calls. -/
inductive Br (α : Type) where
  | none
  | ret (a : α)
  | br (b : Bool) (t e : Br α)
  | opt (o : Option (List D)) (f : List D → Br α)
def Br.bind {α β : Type} : Br α → (α → Br β) → Br β
  | .none, _ => .none
  | .ret a, f => f a
  | .br b t e, f => .br b (t.bind f) (e.bind f)
  | .opt o g, f => .opt o fun t => (g t).bind f
def Br.k {α β : Type} : Br α → (α → Option β) → Option β
  | .none, _ => .none
  | .ret a, f => f a
  | .br b t e, f => bif b then t.k f else e.k f
  | .opt o g, f => o.bind fun t => (g t).k f
def Br.run {α : Type} : Br α → Option α
  | .none => .none
  | .ret a => some a
  | .br b t e => bif b then t.run else e.run
  | .opt o g => o.bind fun t => (g t).run
def Br.of {α : Type} : Option α → Br α
  | some a => .ret a
  | Option.none => .none
def qrun {α : Type} (p : Program) : Sem α → Option α
  | .pure a => some a
  | .program k => qrun p (k p)
  | _ => none
section
variable (P : Program)
def kindOf (t : TypeId) : Option K :=
  match P.underlying t with
  | some .bool => some .bool
  | some (.int k) => some (.int k)
  | some .string => some .str
  | some (.slice e) => some (.sl e)
  | _ => none
def cellTypes : Nat → TypeId → List TypeId
  | 0, _ => []
  | n + 1, t =>
    match P.underlying t with
    | some (.struct fs) => fs.toList.flatMap fun f => cellTypes n f.type
    | some (.array len e) => (List.replicate len (cellTypes n e)).flatten
    | _ => [t]
def kindsOf : List TypeId → Option (List K)
  | [] => some []
  | t :: r => match kindOf P t, kindsOf r with
    | some k, some ks => some (k :: ks)
    | _, _ => none
/-- The kinds of the cells of a row of element type e. -/
def kinds (e : TypeId) : List K := (kindsOf P (cellTypes P 9 e)).getD []
def isAggP (t : TypeId) : Bool :=
  match P.underlying t with
  | some (.struct _) | some (.array _ _) => true
  | _ => false
def knownP (t : TypeId) : Bool := (P.underlying t).isSome
def sizeP (t : TypeId) : Nat := ((P.info? t).map (·.size)).getD 0
end
def cellOf (k : K) (d : D) : Cell :=
  match k with
  | .int k => .v (.int k d.int)
  | .bool => .v (.bool d.bool)
  | .str => .v (.string d.str)
  | .sl e => .sl 0 e d.rows
def rowCells : List K → List D → Nat → List Cell
  | [], _, _ => []
  | k :: ks, r, i => cellOf k (r.getD i .j) :: rowCells ks r (i + 1)
def packCell (k : K) (c : Cell) : Option D :=
  match k, c with
  | .int k, .v (.int k' n) => bif decide (k = k') then some (.i n) else none
  | .bool, .v (.bool b) => some (.b b)
  | .str, .v (.string s) => some (.s s)
  | .sl e, .sl _ e' xs => bif Nat.beq e e' then some (.l xs) else none
  | .sl e, .v (.slice none 0 0) => bif Nat.blt e 1000000000 then some (.l []) else none
  | _, _ => none
def packCells : List K → List Cell → Option (List D)
  | [], [] => some []
  | k :: ks, c :: cs => match packCell k c, packCells ks cs with
    | some d, some ds => some (d :: ds)
    | _, _ => none
  | _, _ => none
def gi (t : List D) (i : Nat) : Int := (t.getD i .j).int
def gb (t : List D) (i : Nat) : Bool := (t.getD i .j).bool
def gs (t : List D) (i : Nat) : ByteArray := (t.getD i .j).str
def gl (t : List D) (i : Nat) : List (List D) := (t.getD i .j).rows
def ri (l : List (List D)) (i : Int) (j : Nat) : Int := gi (l.getD i.toNat []) j
def rb (l : List (List D)) (i : Int) (j : Nat) : Bool := gb (l.getD i.toNat []) j
def rs (l : List (List D)) (i : Int) (j : Nat) : ByteArray := gs (l.getD i.toNat []) j
def rl (l : List (List D)) (i : Int) (j : Nat) : List (List D) := gl (l.getD i.toNat []) j
def look {α : Type} : List (Nat × α) → Nat → Option α
  | [], _ => none
  | (i, a) :: r, t => bif Nat.beq i t then some a else look r t
def band (k : IntKind) (x y : Int) : Int := k.wrap ((BitVec.ofInt k.bits x &&& BitVec.ofInt k.bits y).toNat : Int)
def bor (k : IntKind) (x y : Int) : Int := k.wrap ((BitVec.ofInt k.bits x ||| BitVec.ofInt k.bits y).toNat : Int)
def bxor (k : IntKind) (x y : Int) : Int := k.wrap ((BitVec.ofInt k.bits x ^^^ BitVec.ofInt k.bits y).toNat : Int)
def bandn (k : IntKind) (x y : Int) : Int := k.wrap ((BitVec.ofInt k.bits x &&& ~~~(BitVec.ofInt k.bits y)).toNat : Int)
/-! ### What the printed forms are made of -/
def ltI (a b : Int) : Bool := decide (a < b)
def leI (a b : Int) : Bool := decide (a ≤ b)
def eqI (a b : Int) : Bool := decide (a = b)
def leN (a b : Nat) : Bool := decide (a ≤ b)
def inR (i n : Int) : Bool := decide (0 ≤ i) && decide (i < n)
def leR (i n : Int) : Bool := decide (0 ≤ i) && decide (i ≤ n)
def inS (l h n : Int) : Bool := decide (0 ≤ l) && decide (l ≤ h) && decide (h ≤ n)
def mkOk (l c : Int) (b : Nat) : Bool := decide (0 ≤ l) && decide (l ≤ c) && decide (c * (b : Int) ≤ 140737488355328)
def mkOk1 (n : Int) (b : Nat) : Bool := decide (0 < n) && decide (n * (b : Int) ≤ 140737488355328)
def apOk (n b : Nat) : Bool := decide (n * b ≤ 140737488355328) && decide (n ≤ 4611686018427387904)
def mxI (a b : Int) : Int := if b > a then b else a
def mnI (a b : Int) : Int := if b < a then b else a
/-! ### Places -/
def cellAt : AV → Nat → Cell
  | .p _ cs, j => cs.getD j .u
  | .tup ps, j => (ps.flatMap (·.2)).getD j .u
  | .box _ cs, j => cs.getD j .u
  | _, _ => .u
/-- What a cell reads as; a reference to a slice of the call's own is followed. -/
def res (g : Nat → AV) : Cell → Cell
  | .ref d j => match cellAt (g d) j with
    | .sl (o + 1) e xs => .sl (o + 1) e xs
    | _ => .u
  | c => c
def isOwn : Cell → Bool
  | .sl (_ + 1) _ _ => true
  | _ => false
def refsOf (t : Nat) : List Cell → Nat → List Cell
  | [], _ => []
  | c :: cs, j => (bif isOwn c then .ref t j else c) :: refsOf t cs (j + 1)
def refsTup (t : Nat) : List (Bool × List Cell) → Nat → List (Bool × List Cell)
  | [], _ => []
  | (a, cs) :: ps, j => (a, refsOf t cs j) :: refsTup t ps (j + cs.length)
/-- A slot's content, copied: slices of the call's own stay where they are. -/
def copyOf (t : Nat) : AV → AV
  | .p a cs => .p a (refsOf t cs 0)
  | .tup ps => .tup (refsTup t ps 0)
  | .box _ _ => .pat t 0
  | av => av
def ofV : Value → AV
  | .agg cs => bif cs.toList.all Value.oneCell' then .p true (cs.toList.map .v) else .u
  | .tuple _ => .u
  | x => .p false [.v x]
def allV : List Cell → Option (List Value)
  | [] => some []
  | .v x :: cs => (allV cs).map (x :: ·)
  | _ :: _ => none
def plainV : AV → Option Value
  | .p false [.v x] => some x
  | .p true cs => (allV cs).map fun l => .agg l.toArray
  | _ => none
structure Spec where
  pt : List (Nat × List K)        -- a parameter: 0 one cell, 1 a struct, 2 a pointer that is only read by, 3 a slice that is written, 4 a pointer that is written by
  rt : List (Bool × List (K × Nat))        -- the parts of the result: a struct or one cell; its cells' kinds; of a slice: 1 if it is new
  G : List D → Option (List D)
structure Loop where
  keep : List (Nat × Nat × List (K × Nat))    -- slot; its form (0 one cell, 1 a struct, 2 a pointer that is only read by, 5 a variable, 6 a variable of the caller's); its cells' kinds, and of a slice whose it is
  codes : List Nat
  G : Nat → List D → Option (List D)
structure Env where
  P : Program
  fuel : Nat
  spec : Nat → Option Spec
  loop : Nat → Option Loop
  glob : Nat → Option (List Value)
  nt : Nat
  roq : Nat → Bool := fun _ => false       -- the variables that are only read once they are made
section
variable (E : Env) (g : Nat → AV)
def opnd : Operand → AV
  | .tmp t => copyOf t (g t)
  | .const v => ofV v
  | .global n => match E.glob n with
    | some vs => .ro (vs.map .v) 0
    | none => .u
  | .func f => .fn f
def rho (x : Operand) : Value := (plainV (opnd E g x)).getD undef
def isPlain (x : Operand) : Bool := (plainV (opnd E g x)).isSome
/-- An operation over plain values, as the model itself runs it. -/
def evPlain (o : Oper) : Br AV :=
  bif o.op.operands.toList.all (isPlain E g) then
    match qrun E.P (execOp (rho E g) o) with
    | some (.value v) => bif v.oneCell' then .ret (.p false [.v v]) else .none
    | _ => .none
  else .none
def mv : AV → Br AV
  | .u => .none
  | a => .ret a
/-- '==' of values, as the model compares them, without its early returns. -/
def eqV : Nat → TypeId → Value → Value → Option Bool
  | 0, _, _, _ => none
  | d + 1, t, x, y =>
    match E.P.underlying t, x, y with
    | some .bool, .bool a, .bool b => some (a == b)
    | some (.int _), .int k a, .int k' b => bif decide (k = k') then some (a == b) else none
    | some .string, .string a, .string b => some (a == b)
    | some (.struct fs), .agg xs, .agg ys =>
      bif E.P.stoodInHeld t then none else
      fs.toList.foldr (fun f acc => bif f.name == "_" then none else
        match acc, qrun E.P (part f.type xs f.offset), qrun E.P (part f.type ys f.offset) with
        | some r, some x', some y' => match eqV d f.type x' y' with
          | some b => some (b && r)
          | none => none
        | _, _, _ => none) (some true)
    | _, _, _ => none
def takeAt (cs : List Cell) (o n : Nat) : List Cell := (cs.drop o).take n
/-- The rows of a slice, wherever they lie. -/
def rowsOf : Cell → Option (TypeId × List (List D))
  | .sl _ e xs => some (e, xs)
  | _ => none
def loadV (t : TypeId) (a : AV) : Br AV :=
  let n := sizeP E.P t
  let ag := isAggP E.P t
  let fin (cs : List Cell) : Br AV := bif Nat.beq cs.length n && ((ag || Nat.beq n 1) && (knownP E.P t && Nat.blt 0 n)) then .ret (.p ag cs) else .none
  match a with
  | .pat d o => match g d with
    | .box _ cs => fin (takeAt (refsOf d cs 0) o n)
    | _ => .none
  | .pel d j i o => match cellAt (g d) j with
    | .sl (_ + 1) e xs => fin (takeAt (rowCells (kinds E.P e) (xs.getD i.toNat []) 0) o n)
    | _ => .none
  | .ro cs o => fin (takeAt cs o n)
  | _ => .none
def fieldP (s : TypeId) (f : Nat) : Option Field :=
  match E.P.underlying s with
  | some (.struct fs) => match fs[f]? with
    | some fd => bif Nat.beq (sizeP E.P fd.type) 0 then none else some fd
    | none => none
  | _ => none
def cellsOf : AV → Option (List Cell)
  | .p _ cs => some cs
  | _ => none
def setAll (cs : List Cell) (o : Nat) : List Cell → List Cell
  | [] => cs
  | c :: r => setAll (cs.set o c) (o + 1) r
def placeOfPart (t : TypeId) (i : Nat) : Option (Nat × Nat) :=
  match E.P.underlying t with
  | some (.struct fs) => match fs[i]? with
    | some f => some (f.offset, sizeP E.P f.type)
    | none => none
  | some (.array _ e) => some (i * sizeP E.P e, sizeP E.P e)
  | _ => none
def fillA (pl : Nat → Option (Nat × Nat)) (cells : List Cell) : List (Nat × Operand) → Option (List Cell)
  | [] => some cells
  | (i, x) :: rest =>
    match pl i, cellsOf (opnd E g x) with
    | some (off, n), some cs => bif Nat.beq cs.length n && decide (off + n ≤ cells.length) then fillA pl (setAll cells off cs) rest else none
    | _, _ => none
def partsOk (P : Program) (t : TypeId) : Bool :=
  match P.underlying t with
  | some (.struct fs) => fs.toList.all fun f => (P.info? f.type).isSome
  | some (.array _ e) => (P.info? e).isSome
  | _ => false
def zeroCellsA (t : TypeId) : Option (List Cell) :=
  match E.P.info? t with
  | some i => match i.zero with
    | some z => bif z.cells.toList.all Value.oneCell' then some (z.cells.toList.map .v) else none
    | none => none
  | none => none
/-- Rows out of cells. -/
def packRows (ks : List K) : Nat → List Cell → Option (List (List D))
  | 0, _ => some []
  | n + 1, cs => match packCells ks (cs.take ks.length), packRows ks n (cs.drop ks.length) with
    | some r, some rs => some (r :: rs)
    | _, _ => none
/-- What an argument is told as. -/
def packArg (pt : Nat × List K) (a : AV) : Option (List D) :=
  match pt.1, a with
  | 0, .p false cs => packCells pt.2 (cs.map (res g))
  | 1, .p true cs => packCells pt.2 (cs.map (res g))
  | 7, .p false [.v (.slice none 0 0)] => match pt.2 with
    | [.sl _] => some [.l []]
    | _ => none
  | 2, .ro cs o => packCells pt.2 (takeAt cs o pt.2.length)
  | 2, .pat d o => match g d with
    | .box _ cs => packCells pt.2 ((takeAt cs o pt.2.length).map (res g))
    | _ => none
  | 2, .pel d j i o => match cellAt (g d) j with
    | .sl (_ + 1) e xs => packCells pt.2 (takeAt (rowCells (kinds E.P e) (xs.getD i.toNat []) 0) o pt.2.length)
    | _ => none
  | f + 10, .fn n => match pt.2 with
    | [.bool] => bif Nat.beq n f then some [.b true] else none
    | _ => none
  | _, _ => none
def packArgs : List (Nat × List K) → List Operand → Option (List D)
  | [], [] => some []
  | p :: ps, x :: xs => match (bif Nat.beq p.2.length 0 then none else packArg E g p (opnd E g x)), packArgs ps xs with
    | some d, some ds => some (d ++ ds)
    | _, _ => none
  | _, _ => none
def cellR (k : K × Nat) (d : D) : Cell :=
  match k.1 with
  | .sl e => .sl k.2 e d.rows
  | k => cellOf k d
def cellsR : List (K × Nat) → List D → Nat → List Cell
  | [], _, _ => []
  | k :: ks, ds, i => cellR k (ds.getD i .j) :: cellsR ks ds (i + 1)
def partsR : List (Bool × List (K × Nat)) → List D → Nat → List (Bool × List Cell)
  | [], _, _ => []
  | (a, ks) :: ps, ds, i => (a, cellsR ks ds i) :: partsR ps ds (i + ks.length)
def mkR0 (rt : List (Bool × List (K × Nat))) (ds : List D) : AV :=
  match partsR rt ds 0 with
  | [(a, cs)] => .p a cs
  | ps => .tup ps
def isSl : K → Bool
  | .sl _ => true
  | _ => false
def intsOf (k : IntKind) : List Value → Option (List Int)
  | [] => some []
  | .int k' n :: r => bif decide (k = k') then (intsOf k r).map (n :: ·) else none
  | _ :: _ => none
/-! ### Functions as values: a kind .sl e with a number e that no type has. From 10^9 on: the function e - 10^9; from 2 * 10^9 on: function (e - 2 * 10^9) / 10^5, which has captured a variable that holds function (e - 2 * 10^9) % 10^5 and is only read. -/
def isFnT (e : Nat) : Bool := Nat.ble 1000000000 e && Nat.blt e 1500000000
/-! From 15 * 10^8 on: function (e - 15 * 10^8) / 1000, which has captured variables of whole numbers that are only read; the digits of (e - 15 * 10^8) % 1000 tell, the last first, how many each of them holds. The one row of the data are the numbers. -/
def isCapT (e : Nat) : Bool := Nat.ble 1500000000 e && Nat.blt e 1800000000
/-! From 18 * 10^8 on: a pointer to a variable of type e - 18 * 10^8 that is only read (one row), or nil (no row). -/
def isPtrT (e : Nat) : Bool := Nat.ble 1800000000 e && Nat.blt e 2000000000
def ptrT (e : Nat) : Nat := e - 1800000000
/-- A result that is a pointer to a new variable; behind its own kind those of the variable's cells. -/
def newR : List (Bool × List (K × Nat)) → Option (List (K × Nat))
  | [(false, (.sl e, 1) :: ks)] => bif isPtrT e && ks.all (fun k => Nat.beq k.2 0) then some ks else none
  | _ => none
def mkR (rt : List (Bool × List (K × Nat))) (ds : List D) : AV :=
  match newR rt with
  | some ks => .box true (cellsR ks ds 1)
  | none => mkR0 rt ds
def capF (e : Nat) : Nat := (e - 1500000000) / 1000
def layOf : Nat → Nat → List Nat
  | 0, _ => []
  | k + 1, c => bif Nat.beq c 0 then [] else (c % 10) :: layOf k (c / 10)
def lay (e : Nat) : List Nat := layOf 3 ((e - 1500000000) % 1000)
def isI64 : K → Bool
  | .int .i64 => true
  | _ => false
def capsOk : List (Nat × List K) → List Nat → Bool
  | [], [] => true
  | p :: ps, n :: ns => (Nat.beq p.1 2 && (Nat.beq p.2.length n && p.2.all isI64)) && capsOk ps ns
  | _, _ => false
def capDs (rows : List (List D)) : Nat → Nat → List D
  | 0, _ => []
  | n + 1, i => .i (ri rows 0 i) :: capDs rows n (i + 1)
/-- The captured variables: the numbers, and how many each holds. -/
def capRows : List AV → Option (List Int × List Nat)
  | [] => some ([], [])
  | .ro cs 0 :: xs => match (allV cs).bind (intsOf .i64), capRows xs with
    | some ns, some (rs, ls) => some (ns ++ rs, ns.length :: ls)
    | _, _ => none
  | _ :: _ => none
def layEq : List Nat → List Nat → Bool
  | [], [] => true
  | a :: as, b :: bs => Nat.beq a b && layEq as bs
  | _, _ => false
def layN : List Nat → Nat
  | [] => 0
  | a :: as => a + 10 * layN as
def capT (f : Nat) (ls : List Nat) : Nat := 1500000000 + 1000 * f + layN ls
def isCloT (e : Nat) : Bool := Nat.ble 2000000000 e
def fnOfT (e : Nat) : Nat := e - 1000000000
def cloF (e : Nat) : Nat := (e - 2000000000) / 100000
def cloG (e : Nat) : Nat := (e - 2000000000) % 100000
/-- The captured variable as the last parameter. -/
def lastCap (pt : List (Nat × List K)) (e : Nat) : Bool :=
  match pt.getLast? with
  | some (2, [.sl e']) => Nat.beq e' (1000000000 + cloG e)
  | _ => false
/-- Does a result hold a slice that may lie in an argument's memory? -/
def shares (P : Program) (rt : List (Bool × List (K × Nat))) : Bool :=
  rt.any fun p => p.2.any fun k => match k.1 with
    | .sl e => Nat.beq k.2 0 || (kinds P e).any isSl
    | _ => false
/-- Does an argument hand on memory of the call's own? -/
def lendsC : Cell → Bool
  | .ref _ _ => true
  | .sl (_ + 1) _ _ => true
  | _ => false
def lends (g : Nat → AV) : Operand → Bool
  | .tmp t => match g t with
    | .p _ cs => cs.any lendsC
    | .box _ _ | .pat _ _ | .pel _ _ _ _ | .tup _ => true
    | _ => false
  | _ => false
def bt (s : ByteArray) (i : Int) : Int := ((s.data.toList.getD i.toNat 0).toNat : Int)
def strsOf : List Value → Option (List ByteArray)
  | [] => some []
  | .string s :: r => (strsOf r).map (s :: ·)
  | _ :: _ => none
/-- One of n places, by the index. -/
def brIdx (i : Int) (f : Nat → AV) : Nat → Nat → Br AV
  | 0, _ => .none
  | n + 1, j => .br (decide (i = (j : Int))) (.ret (f j)) (brIdx i f n (j + 1))
/-- A text's bytes as rows. -/
def bytesR (s : ByteArray) : List (List D) := s.data.toList.map fun b => [.i (b.toNat : Int)]
def bytesD (xs : List (List D)) : ByteArray := ⟨(xs.map fun r => UInt8.ofNat (gi r 0).toNat).toArray⟩
def roDst (d : Option Nat) : Bool := match d with
  | some d => E.roq d
  | none => false
/-- One operation that writes nothing but its own slot. -/
def evQ (o : Oper) : Br AV :=
  match o.op with
  | .move x | .assign x => mv (opnd E g x)
  | .pick c a b => match plainV (opnd E g c) with
    | some (.bool t) => .br t (mv (opnd E g a)) (mv (opnd E g b))
    | _ => .none
  | .alloc e => match zeroCellsA E e with
    | some cs => .ret (.box true cs)
    | none => .none
  | .box _ x => match cellsOf (opnd E g x) with
    | some cs => bif roDst E o.dst then match allV cs with
        | some _ => bif Nat.blt 0 cs.length then .ret (.ro cs 0) else .none
        | none => .none
      else .ret (.box true cs)
    | none => .none
  | .makeFunc (.func f) bs caps => match bs.toList, capRows (caps.toList.map (opnd E g)) with
    | [], some (ns, ls) => bif (isCapT (capT f ls) && Nat.beq (capF (capT f ls)) f) && (layEq (lay (capT f ls)) ls && Nat.beq (kinds E.P (capT f ls)).length 0) then .ret (.p false [.sl 0 (capT f ls) [ns.map .i]]) else .none
    | _, _ => .none
  | .build t parts => bif !partsOk E.P t then .none else match zeroCellsA E t with
    | some z => match fillA E g (placeOfPart E t) z parts.toList with
      | some cs => .ret (.p true cs)
      | none => .none
    | none => .none
  | .load t a => loadV E g t (opnd E g a)
  | .nilCheck x => match opnd E g x with
    | .pat d o => .ret (.pat d o)
    | .pel d j i o => .ret (.pel d j i o)
    | .ro cs o => .ret (.ro cs o)
    | _ => .none
  | .fieldAddr s x f => match fieldP E s f, opnd E g x with
    | some fd, .pat d o => .ret (.pat d (o + fd.offset))
    | some fd, .pel d j i o => .ret (.pel d j i (o + fd.offset))
    | some fd, .ro cs o => .ret (.ro cs (o + fd.offset))
    | _, _ => .none
  | .field s x f => match fieldP E s f, opnd E g x with
    | some fd, .p true cs =>
      let n := sizeP E.P fd.type
      let cs' := takeAt cs fd.offset n
      bif Nat.beq cs'.length n && ((isAggP E.P fd.type || Nat.beq n 1) && (knownP E.P fd.type && Nat.blt 0 n)) then .ret (.p (isAggP E.P fd.type) cs') else .none
    | _, _ => .none
  | .indexAddr t x ix => match opnd E g x, plainV (opnd E g ix), E.P.underlying t with
    | .pat d o, some (.int _ i), some (.array n e) => bif Nat.blt 1 n && (Nat.ble n 8 && Nat.blt 0 (sizeP E.P e)) then brIdx i (fun j => .pat d (o + j * sizeP E.P e)) n 0 else .none
    | .ro cs 0, some (.int _ i), some (.array n e) => bif Nat.beq cs.length n && (Nat.blt 1 n && Nat.beq (sizeP E.P e) 1) then
        match cs with
        | .v (.string _) :: _ => match (allV cs).bind strsOf with
          | some ns => .br (decide (0 ≤ i) && decide (i < (n : Int))) (.ret (.ro [.v (.string (ns.getD i.toNat .empty))] 0)) .none
          | none => .none
        | .v (.int k _) :: _ => match (allV cs).bind (intsOf k) with
          | some ns => .br (decide (0 ≤ i) && decide (i < (n : Int))) (.ret (.ro [.v (.int k (ns.getD i.toNat 0))] 0)) .none
          | none => .none
        | _ => .none
      else .none
    | .p false [c], some (.int _ i), some (.slice e) =>
      bif !(Nat.beq (kinds E.P e).length (sizeP E.P e) && Nat.blt 0 (sizeP E.P e)) then .none else
      match c, res g c with
      | .ref d j, .sl (_ + 1) e' xs => bif Nat.beq e e' then .br (decide (0 ≤ i) && decide (i < (xs.length : Int))) (.ret (.pel d j i 0)) .none else .none
      | .sl 0 e' xs, _ => bif Nat.beq e e' then .br (decide (0 ≤ i) && decide (i < (xs.length : Int))) (.ret (.ro (rowCells (kinds E.P e) (xs.getD i.toNat []) 0) 0)) .none else .none
      | _, _ => .none
    | _, _, _ => .none
  | .index t x ix => match plainV (opnd E g x), plainV (opnd E g ix), E.P.underlying t with
    | some (.agg cs), some (.int _ i), some (.array n e) => bif Nat.beq cs.size n && (Nat.beq (sizeP E.P e) 1 && (knownP E.P e && !isAggP E.P e)) then
        match (cs[0]? : Option Value) with
        | some (.int k _) => match intsOf k cs.toList with
          | some ns => .br (decide (0 ≤ i) && decide (i < (n : Int))) (.ret (.p false [.v (.int k (ns.getD i.toNat 0))])) .none
          | none => .none
        | some (.string _) => match strsOf cs.toList with
          | some ns => .br (decide (0 ≤ i) && decide (i < (n : Int))) (.ret (.p false [.v (.string (ns.getD i.toNat .empty))])) .none
          | none => .none
        | _ => .none
      else .none
    | some (.string s), some (.int _ i), some .string => .br (decide (0 ≤ i) && decide (i < (s.size : Int))) (.ret (.p false [.v (.int .u8 (bt s i))])) .none
    | _, _, _ => .none
  | .slice t x lo hi none => match plainV (opnd E g x), E.P.underlying t with
    | some (.string s), some .string =>
      let h? : Option Int := match hi with
        | none => some (s.size : Int)
        | some y => match plainV (opnd E g y) with
          | some (.int _ n) => some n
          | _ => none
      let l? : Option Int := match lo with
        | none => some 0
        | some y => match plainV (opnd E g y) with
          | some (.int _ n) => some n
          | _ => none
      match l?, h? with
      | some l, some h => .br (decide (0 ≤ l) && decide (l ≤ h) && decide (h ≤ (s.size : Int))) (.ret (.p false [.v (.string (s.extract l.toNat h.toNat))])) .none
      | _, _ => .none
    | some (.slice none 0 0), some (.slice _) => evPlain E g o
    | _, _ => .none
  | .extract x i => match opnd E g x with
    | .tup ps => match ps[i]? with
      | some (false, [.sl 0 e rows]) => bif isPtrT e then
          bif Nat.blt 0 (kinds E.P (ptrT e)).length && Nat.beq (kinds E.P e).length 0 then .br (decide (rows.length = 1)) (.ret (.ro (rowCells (kinds E.P (ptrT e)) (rows.getD 0 []) 0) 0)) (.br (decide (rows.length = 0)) (.ret (.p false [.v (.pointer none)])) .none) else .none
        else .ret (.p false [.sl 0 e rows])
      | some (a, cs) => .ret (.p a cs)
      | none => .none
    | _ => .none
  | .buildSlice t len parts => match E.P.underlying t with
    | some (.slice e) =>
      let m := sizeP E.P e
      let ks := kinds E.P e
      match zeroCellsA E e with
      | some z => bif Nat.beq ks.length m && decide (0 < m) && decide (len * m ≤ 16777216) && Nat.beq z.length m then
          match fillA E g (fun i => some (i * m, m)) ((List.replicate len z).flatten) parts.toList with
          | some cs => match packRows ks len cs with
            | some rs => .ret (.p false [.sl 1 e rs])
            | none => .none
          | none => .none
        else .none
      | none => .none
    | _ => .none
  | .makeSlice t l c => match E.P.underlying t, plainV (opnd E g l), plainV (opnd E g c) with
    | some (.slice e), some (.int .i64 l), some (.int .i64 c) => match E.P.info? e, zeroCellsA E e with
      | some i, some z =>
        let ks := kinds E.P e
        bif Nat.beq ks.length i.size && decide (0 < i.size) && decide (0 < i.bytes) then
        match packCells ks z with
        | some row => .br (decide (0 ≤ l) && decide (l ≤ c) && decide (c * (i.bytes : Int) ≤ 140737488355328)) (.ret (.p false [.sl 1 e (List.replicate l.toNat row)])) .none
        | none => .none
        else .none
      | _, _ => .none
    | _, _, _ => .none
  | .binOp op t x y _ => match op, plainV (opnd E g x), plainV (opnd E g y) with
    | .quo, some (.int k a), some (.int k' b) => bif decide (k = k') then .br (decide (b = 0)) .none (.ret (.p false [.v (.int k (k.wrap (a.tdiv b)))])) else .none
    | .rem, some (.int k a), some (.int k' b) => bif decide (k = k') then .br (decide (b = 0)) .none (.ret (.p false [.v (.int k (a.tmod b))])) else .none
    | .shl, some (.int k a), some (.int _ b) => .br (decide (b < 0)) .none (.ret (.p false [.v (.int k (k.wrap (a * 2 ^ min b.toNat k.bits)))]))
    | .shr, some (.int k a), some (.int _ b) => .br (decide (b < 0)) .none (.ret (.p false [.v (.int k (a.fdiv (2 ^ min b.toNat k.bits)))]))
    | .add, some (.string a), some (.string b) => .br (decide (a.size + b.size ≤ 140737488355328)) (.ret (.p false [.v (.string (a ++ b))])) .none
    | .eql, some (.agg a), some (.agg b) => match eqV E Op.maxDepth t (.agg a) (.agg b) with
      | some r => bif E.P.eqGuardType E.P.depth t then .none else .ret (.p false [.v (.bool r)])
      | none => .none
    | .neq, some (.agg a), some (.agg b) => match eqV E Op.maxDepth t (.agg a) (.agg b) with
      | some r => bif E.P.eqGuardType E.P.depth t then .none else .ret (.p false [.v (.bool !r)])
      | none => .none
    | _, some _, some _ => evPlain E g o
    | _, _, _ => .none
  | .call { callee := .builtin .len, args, argTypes } => match args.toList, argTypes.toList with
    | [x], [t] => match opnd E g x with
      | .p false [c] => match res g c, E.P.underlying t with
        | .sl _ e xs, some (.slice _) => bif Nat.blt 0 (kinds E.P e).length then .ret (.p false [.v (.int .i64 (xs.length : Int))]) else .none
        | .v _, _ => evPlain E g o
        | _, _ => .none
      | _ => .none
    | _, _ => .none
  | .call { callee := .value f, args, .. } => match opnd E g f with
    | .fn n => match E.spec n with
      | some sp => bif shares E.P sp.rt && args.toList.any (lends g) then .none else
        match packArgs E g sp.pt args.toList with
        | some ds => .opt (sp.G ds) fun t => .ret (mkR sp.rt t)
        | none => .none
      | none => .none
    | .p false [.sl 0 e rows] => bif !Nat.beq (kinds E.P e).length 0 then .none else
      bif isFnT e then match E.spec (fnOfT e) with
        | some sp => bif shares E.P sp.rt && args.toList.any (lends g) then .none else
          match packArgs E g sp.pt args.toList with
          | some ds => .opt (sp.G ds) fun t => .ret (mkR sp.rt t)
          | none => .none
        | none => .none
      else bif isCapT e then match E.spec (capF e) with
        | some sp => bif !capsOk (sp.pt.drop args.toList.length) (lay e) || shares E.P sp.rt && args.toList.any (lends g) then .none else
          match packArgs E g (sp.pt.take args.toList.length) args.toList with
          | some ds => .opt (sp.G (ds ++ capDs rows (lay e).sum 0)) fun t => .ret (mkR sp.rt t)
          | none => .none
        | none => .none
      else bif isCloT e then match E.spec (cloF e) with
        | some sp => bif (!lastCap sp.pt e || !Nat.beq (kinds E.P (1000000000 + cloG e)).length 0) || shares E.P sp.rt && args.toList.any (lends g) then .none else
          match packArgs E g sp.pt.dropLast args.toList with
          | some ds => .opt (sp.G (ds ++ [.l []])) fun t => .ret (mkR sp.rt t)
          | none => .none
        | none => .none
      else .none
    | _ => .none
  | .call { callee := .builtin .max, .. } | .call { callee := .builtin .min, .. } => evPlain E g o
  | .call { callee := .builtin .cap, .. } => evPlain E g o
  | .unOp _ _ _ => evPlain E g o
  | .convert s t x => match opnd E g x, E.P.underlying s, E.P.underlying t with
    | .p false [c], some (.slice e), some .string => match res g c, E.P.underlying e with
      | .sl _ e' xs, some (.int .u8) => bif Nat.beq e e' && Nat.beq (sizeP E.P e) 1 then .ret (.p false [.v (.string (bytesD xs))]) else .none
      | _, _ => .none
    | .p false [.v (.string b)], some .string, some (.slice e) => match E.P.underlying e with
      | some (.int .u8) => .ret (.p false [.sl 0 e (bytesR b)])
      | _ => .none
    | _, _, _ => evPlain E g o
  | _ => .none
end
/-! ### States -/
def owner : AV → Bool
  | .p _ cs => cs.any isOwn
  | .tup ps => ps.any fun x => x.2.any isOwn
  | .box _ _ => true
  | _ => false
def forgetC (d : Nat) : Cell → Cell
  | .ref d' j => bif Nat.beq d d' then .u else .ref d' j
  | c => c
def forgetA (d : Nat) : AV → AV
  | .p a cs => .p a (cs.map (forgetC d))
  | .tup ps => .tup (ps.map fun x => (x.1, x.2.map (forgetC d)))
  | .box o cs => .box o (cs.map (forgetC d))
  | .ro cs o => .ro (cs.map (forgetC d)) o
  | .pat d' o => bif Nat.beq d d' then .u else .pat d' o
  | .pel d' j i o => bif Nat.beq d d' then .u else .pel d' j i o
  | av => av
def forget (d : Nat) : St → St
  | [] => []
  | (t, a) :: r => (t, forgetA d a) :: forget d r
def put (st : St) (d : Nat) (av : AV) : St := bif owner av || owner (get st d) then (d, forgetA d av) :: forget d st else (d, av) :: st
def putO (st : St) (d : Option Nat) (av : AV) : St :=
  match d with
  | some d => put st d av
  | none => st
/-! ### Operations that write -/
def isMutC : Cell → Bool
  | .sl (_ + 2) _ _ => true
  | _ => false
def clearC (cs : List Cell) (j : Nat) : List Cell := cs.set j .u
def setT : List (Bool × List Cell) → Nat → Cell → List (Bool × List Cell)
  | [], _, _ => []
  | (a, cs) :: ps, j, c => bif Nat.blt j cs.length then (a, cs.set j c) :: ps else (a, cs) :: setT ps (j - cs.length) c
def clearA : AV → Nat → AV
  | .p a cs, j => .p a (clearC cs j)
  | .tup ps, j => .tup (setT ps j .u)
  | .box o cs, j => .box o (clearC cs j)
  | av, _ => av
def forgetRC (d j : Nat) : Cell → Cell
  | .ref d' j' => bif Nat.beq d d' && Nat.beq j j' then .u else .ref d' j'
  | c => c
def forgetRA (d j : Nat) : AV → AV
  | .p a cs => .p a (cs.map (forgetRC d j))
  | .tup ps => .tup (ps.map fun x => (x.1, x.2.map (forgetRC d j)))
  | .box o cs => .box o (cs.map (forgetRC d j))
  | .ro cs o => .ro (cs.map (forgetRC d j)) o
  | .pel d' j' i o => bif Nat.beq d d' && Nat.beq j j' then .u else .pel d' j' i o
  | av => av
def forgetR (d j : Nat) : St → St
  | [] => []
  | (t, a) :: r => (t, forgetRA d j a) :: forgetR d j r
/-- The slice at cell j of slot d is taken away. -/
def takeOut (st : St) (d j : Nat) : St := let a := get st d; (d, clearA (forgetRA d j a) j) :: forgetR d j st
section
variable (E : Env)
def setRow (m : Nat) (r : List D) (o n : Nat) (ds : List D) : List D := (List.range m).map fun q => bif Nat.ble o q && Nat.blt q (o + n) then ds.getD (q - o) .j else r.getD q .j
/-- Cells o .. o + n - 1 of row i are written. -/
def setc (xs : List (List D)) (i : Int) (m o n : Nat) (ds : List D) : List (List D) := xs.set i.toNat (setRow m (xs.getD i.toNat []) o n ds)
def setAt (av : AV) (j : Nat) (c : Cell) : AV :=
  match av with
  | .p a cs => .p a (cs.set j c)
  | .box w cs => .box w (cs.set j c)
  | .tup ps => .tup (setT ps j c)
  | av => av
def setSl (st : St) (d j : Nat) (c : Cell) : St := (d, setAt (get st d) j c) :: st
/-- Places that f tells are forgotten. -/
def fgC (f : Nat → Nat → Bool) : Cell → Cell
  | .ref d j => bif f d j then .u else .ref d j
  | c => c
def fgA (f : Nat → Nat → Bool) : AV → AV
  | .p a cs => .p a (cs.map (fgC f))
  | .tup ps => .tup (ps.map fun x => (x.1, x.2.map (fgC f)))
  | .box o cs => .box o (cs.map (fgC f))
  | .ro cs o => .ro (cs.map (fgC f)) o
  | .pel d j i o => bif f d j then .u else .pel d j i o
  | av => av
def fgS (f : Nat → Nat → Bool) : St → St
  | [] => []
  | (t, a) :: r => (t, fgA f a) :: fgS f r
def noRef : Cell → Cell
  | .ref _ _ => .u
  | c => c
def inPl (t d o n d' j : Nat) : Bool := Nat.beq d' t || (Nat.beq d' d && (Nat.ble o j && Nat.blt j (o + n)))
/-- A slice of the call's own that cell i of slot t refers to comes to lie there. -/
def onePl (d0 j0 d1 j1 d j : Nat) : Bool := (Nat.beq d d0 && Nat.beq j j0) || (Nat.beq d d1 && Nat.beq j j1)
def pull (st : St) (t i : Nat) (c : Cell) : St :=
  match c with
  | .ref d' j' => match get st t, cellAt (get st d') j', cellAt (get st t) i with
    | .p _ _, .sl 1 e xs, .ref d2 j2 => bif !Nat.beq d' t && (Nat.beq d' d2 && Nat.beq j' j2) then
        let st1 := fgS (onePl d' j' t i) st
        (t, setAt (get st1 t) i (.sl 1 e xs)) :: (d', setAt (get st1 d') j' .u) :: st1
      else st
    | _, _, _ => st
  | _ => st
def pullAll (st : St) (t : Nat) : List Cell → Nat → St
  | [], _ => st
  | c :: r, i => pullAll (pull st t i c) t r (i + 1)
def cellsP : AV → List Cell
  | .p _ cs => cs
  | _ => []
/-- A value with slices of the call's own is moved into a variable. -/
def moveStore (st0 : St) (d o n : Nat) (x : Operand) : Br St :=
  match x with
  | .tmp t =>
    let st := pullAll st0 t (cellsP (get st0 t)) 0
    match get st t, get st d with
    | .p _ cs, .box w bs => bif (!Nat.beq t d && !cs.any isMutC) && (Nat.beq cs.length n && decide (o + n ≤ bs.length) && (!(takeAt bs o n).any isOwn && Nat.blt 0 n)) then .ret ((d, .box w (setAll (bs.map (fgC (inPl t d o n))) o (cs.map noRef))) :: (t, .u) :: fgS (inPl t d o n) st) else .none
    | _, _ => .none
  | _ => .none
def storeOp (st : St) (t : TypeId) (a x : Operand) : Br St :=
  let n := sizeP E.P t
  match opnd E (get st) a, cellsOf (opnd E (get st) x) with
  | .pat d o, some cs => match get st d with
    | .box w bs => bif Nat.beq cs.length n && decide (o + n ≤ bs.length) && (!(takeAt bs o n).any isOwn && Nat.blt 0 n) then
        bif cs.any lendsC then moveStore st d o n x else .ret ((d, .box w (setAll bs o cs)) :: st)
      else .none
    | _ => .none
  | .pel d j i o, some cs => match cellAt (get st d) j with
    | .sl (w + 1) e xs =>
      let ks := kinds E.P e
      bif Nat.beq cs.length n && decide (o + n ≤ ks.length) && (Nat.beq ks.length (sizeP E.P e) && Nat.blt 0 n) then
        match packCells ((ks.drop o).take n) cs with
        | some ds => .ret (setSl st d j (.sl (w + 1) e (setc xs i ks.length o n ds)))
        | none => .none
      else .none
    | _ => .none
  | _, _ => .none
def zeroOk (e : TypeId) (n : Nat) : Bool :=
  match E.P.info? e with
  | some i => match i.zero with
    | some z => Nat.beq z.cells.size n
    | none => false
  | none => false
def appendOp (st : St) (dst : Option Nat) (t : TypeId) (s x : Operand) : Br St :=
  match E.P.underlying t with
  | some (.slice e) => match opnd E (get st) s, opnd E (get st) x, E.P.info? e with
    | .p false [c], .p false [y], some i =>
      let ys? : Option (List (List D)) := match res (get st) y with
        | .sl _ e' ys => bif Nat.beq e e' then some ys else none
        | .v (.slice none 0 0) => some []
        | _ => none
      let ks := kinds E.P e
      bif Nat.beq ks.length i.size && (decide (0 < i.size) && zeroOk E e i.size) then
      match ys? with
      | some ys => match c with
        | .v (.slice none 0 0) => .br (decide (ys.length * i.bytes ≤ 140737488355328) && decide (ys.length ≤ 4611686018427387904)) (.ret (putO st dst (.p false [.sl 1 e ys]))) .none
        | .ref d j => match cellAt (get st d) j with
          | .sl 1 e' xs => bif Nat.beq e e' then .br (decide ((xs.length + ys.length) * i.bytes ≤ 140737488355328) && decide (xs.length + ys.length ≤ 4611686018427387904)) (.ret (putO (takeOut st d j) dst (.p false [.sl 1 e (xs ++ ys)]))) .none else .none
          | _ => .none
        | _ => .none
      | none => .none
      else .none
    | _, _, _ => .none
  | _ => .none
/-- append(nil, make([]T, n)...). -/
def appendMake (st : St) (dst : Option Nat) (t t' : TypeId) (s x : Operand) : Br St :=
  match E.P.underlying t, E.P.underlying t', plainV (opnd E (get st) s), plainV (opnd E (get st) x) with
  | some (.slice e), some (.int _), some (.slice none 0 0), some (.int _ n) => match E.P.info? e, zeroCellsA E e with
    | some i, some z =>
      let ks := kinds E.P e
      bif Nat.beq ks.length i.size && decide (0 < i.size) && decide (0 < i.bytes) then
      match packCells ks z with
      | some row => .br (decide (0 < n) && decide (n * (i.bytes : Int) ≤ 140737488355328)) (.ret (putO st dst (.p false [.sl 1 e (List.replicate n.toNat row)]))) .none
      | none => .none
      else .none
    | _, _ => .none
  | _, _, _, _ => .none
/-- s[:h] of a slice of the call's own. -/
def sliceOwn (st : St) (dst : Option Nat) (t : TypeId) (d j : Nat) (hi : Operand) : Br St :=
  match E.P.underlying t, cellAt (get st d) j, plainV (opnd E (get st) hi) with
  | some (.slice e), .sl 1 e' xs, some (.int _ h) => bif Nat.beq e e' && (E.P.info? e).isSome then .br (decide (0 ≤ h) && decide (h ≤ (xs.length : Int))) (.ret (putO (takeOut st d j) dst (.p false [.sl 1 e (xs.take h.toNat)]))) .none else .none
  | _, _, _ => .none
/-- A call that writes by some of its parameters. -/
def mutKinds (P : Program) (pt : List (Nat × List K)) : Bool := pt.all fun p => !Nat.beq p.1 3 || match p.2 with
  | [.sl e] => !(kinds P e).any isSl
  | _ => false
def packMut (g : Nat → AV) (pt : Nat × List K) (a : AV) : Option (List D) :=
  match pt.1, a with
  | 3, .p false [.ref d j] => match cellAt (g d) j, pt.2 with
    | .sl (_ + 1) e xs, [.sl e'] => bif Nat.beq e e' then some [.l xs] else none
    | _, _ => none
  | _, a => packArg E g pt a
def packMuts (g : Nat → AV) : List (Nat × List K) → List Operand → Option (List D)
  | [], [] => some []
  | p :: ps, x :: xs => match (bif Nat.beq p.2.length 0 then none else packMut E g p (opnd E g x)), packMuts g ps xs with
    | some d, some ds => some (d ++ ds)
    | _, _ => none
  | _, _ => none
/-- The parameters by which a call writes: 3 a slice, 4 a pointer to a whole variable. -/
def isW (f : Nat) : Bool := Nat.beq f 3 || Nat.beq f 4
def isMut (sp : Spec) : Bool := sp.pt.any fun p => isW p.1
def isMut4 (sp : Spec) : Bool := sp.pt.any fun p => Nat.beq p.1 4
/-- What was written comes back behind the result. -/
def outs (g : Nat → AV) : List (Nat × List K) → List Operand → List D → Nat → St → Option St
  | p :: ps, x :: xs, t, i, st =>
    bif Nat.beq p.1 3 then match opnd E g x with
      | .p false [.ref d j] => match cellAt (get st d) j with
        | .sl (w + 1) e _ => outs g ps xs t (i + 1) (setSl st d j (.sl (w + 1) e (t.getD i .j).rows))
        | _ => none
      | _ => none
    else outs g ps xs t i st
  | [], [], _, _, st => some st
  | _, _, _, _, _ => none
def countR (rt : List (Bool × List (K × Nat))) : Nat := (rt.map (·.2.length)).sum
def oneMut : List (Nat × List K) → Bool
  | [] => true
  | p :: ps => bif isW p.1 then !ps.any fun q => isW q.1 else oneMut ps
/-- Nothing of the call's own is lent beside what is written. -/
def restLends (f : Nat) (g : Nat → AV) : List (Nat × List K) → List Operand → Bool
  | p :: ps, x :: xs => (Nat.beq p.1 f || !lends g x) && restLends f g ps xs
  | _, _ => true
def noSl (rt : List (Bool × List (K × Nat))) : Bool := rt.all fun p => p.2.all fun k => !isSl k.1
def packPtr (g : Nat → AV) (pt : Nat × List K) (a : AV) : Option (List D) :=
  match pt.1, a with
  | 4, .pat d 0 => match g d with
    | .box _ cs => bif cs.any isOwn then none else packCells pt.2 cs
    | _ => none
  | _, a => packArg E g pt a
def packPtrs (g : Nat → AV) : List (Nat × List K) → List Operand → Option (List D)
  | [], [] => some []
  | p :: ps, x :: xs => match (bif Nat.beq p.2.length 0 then none else packPtr E g p (opnd E g x)), packPtrs g ps xs with
    | some d, some ds => some (d ++ ds)
    | _, _ => none
  | _, _ => none
/-- The variable that was written comes back behind the result. -/
def outsP (g : Nat → AV) : List (Nat × List K) → List Operand → List D → Nat → St → Option St
  | p :: ps, x :: xs, t, i, st =>
    bif Nat.beq p.1 4 then match opnd E g x with
      | .pat d 0 => match g d with
        | .box w _ => some ((d, .box w (cellsR (p.2.map (·, 0)) t i)) :: st)
        | _ => none
      | _ => none
    else outsP g ps xs t i st
  | _, _, _, _, _ => none
/-- Slices of the call's own that are lent are only read from here on. -/
def freezeS1 (st : St) (d : Nat) : St :=
  match get st d with
  | .p false [.sl 1 e xs] => (d, .p false [.sl 0 e xs]) :: st
  | _ => st
def freezeS (st : St) : List Operand → St
  | [] => st
  | .tmp d :: r => freezeS (freezeS1 st d) r
  | _ :: r => freezeS st r
def ptrCall (st0 : St) (dst : Option Nat) (sp : Spec) (args : List Operand) : Br St :=
  let st := freezeS st0 args
  bif (!oneMut sp.pt || !noSl sp.rt) || !restLends 4 (get st) sp.pt args then .none else
  match packPtrs E (get st) sp.pt args with
  | some ds => .opt (sp.G ds) fun t => match outsP E (get st) sp.pt args t (countR sp.rt) st with
    | some st' => .ret (putO st' dst (mkR sp.rt t))
    | none => .none
  | none => .none
def mutCall (st : St) (dst : Option Nat) (sp : Spec) (args : List Operand) : Br St :=
  bif (shares E.P sp.rt || (!oneMut sp.pt || !mutKinds E.P sp.pt)) || !restLends 3 (get st) sp.pt args then .none else
  match packMuts E (get st) sp.pt args with
  | some ds => .opt (sp.G ds) fun t => match outs E (get st) sp.pt args t (countR sp.rt) st with
    | some st' => .ret (putO st' dst (mkR sp.rt t))
    | none => .none
  | none => .none
def specOf (st : St) (f : Operand) : Option Spec :=
  match opnd E (get st) f with
  | .fn n => E.spec n
  | _ => none
def isV : Cell → Bool
  | .v _ => true
  | _ => false
/-- A variable of the call's own is only read from here on. -/
def freeze1 (st : St) (d : Nat) : St :=
  match get st d with
  | .box true cs => bif cs.all isV && Nat.blt 0 cs.length then (d, .ro cs 0) :: st else st
  | _ => st
def freezeAll (st : St) : List Operand → St
  | [] => st
  | .tmp d :: r => freezeAll (freeze1 st d) r
  | _ :: r => freezeAll st r
/-- A slice of the call's own that lies in a tuple. -/
def tupRef (g : Nat → AV) : Cell → Bool
  | .ref d _ => match g d with
    | .tup _ => true
    | _ => false
  | _ => false
def takeTup (st : St) (dst : Option Nat) (t : Nat) (cs : List Cell) : Br St :=
  let st1 := pullAll st t cs 0
  match get st1 t with
  | .p a cs => bif cs.any isOwn && !cs.any isMutC then .ret (putO ((t, .u) :: forget t st1) dst (.p a (cs.map (forgetC t)))) else .none
  | _ => .none
/-- One operation. -/
def evOp (st : St) (o : Oper) : Br St :=
  let q : Br St := (evQ E (get st) o).bind fun av => .ret (putO st o.dst av)
  match o.op with
  | .store t a x => match o.dst with
    | none => storeOp E st t a x
    | some _ => .none
  | .assign (.tmp t) => match get st t with
    | .p a cs => bif cs.any isOwn then bif cs.any isMutC then .none else .ret (putO ((t, .u) :: forget t st) o.dst (.p a (cs.map (forgetC t)))) else
      bif cs.any (tupRef (get st)) then takeTup st o.dst t cs else q
    | _ => q
  | .call { callee := .builtin .append, args, argTypes } => match args.toList, argTypes.toList with
    | [s, x], [t, t'] => bif Nat.beq t t' then appendOp E st o.dst t s x else appendMake E st o.dst t t' s x
    | _, _ => .none
  | .slice t x none (some hi) none => match opnd E (get st) x with
    | .p false [.ref d j] => sliceOwn E st o.dst t d j hi
    | _ => q
  | .makeFunc _ _ caps => (evQ E (get (freezeAll st caps.toList)) o).bind fun av => .ret (putO (freezeAll st caps.toList) o.dst av)
  | .call { callee := .value f, args, .. } => match specOf E st f with
    | some sp => bif isMut sp then (bif isMut4 sp then ptrCall E st o.dst sp args.toList else mutCall E st o.dst sp args.toList) else q
    | none => match opnd E (get st) f with
      | .p _ _ => q
      | _ => .none
  | _ => q
def dstOf (ops : List Oper) (j : Nat) : Option Nat := match ops[j]? with
  | some o => o.dst
  | none => none
def evOps {R : Type} (all : List Oper) : List Oper → St → (St → Option R) → Option R
  | [], st, k => k st
  | o :: os, st, k =>
    match o.guard with
    | none => (evOp E st o).k fun st' => evOps all os st' k
    | some (j, want) => match dstOf all j with
      | some d => match get st d with
        | .p false [.v (.bool b)] =>
          bif b then (bif want then (evOp E ((d, .p false [.v (.bool true)]) :: st) o).k fun st' => evOps all os st' k else evOps all os (putO ((d, .p false [.v (.bool true)]) :: st) o.dst (.tup [])) k)
          else (bif want then evOps all os (putO ((d, .p false [.v (.bool false)]) :: st) o.dst (.tup [])) k else (evOp E ((d, .p false [.v (.bool false)]) :: st) o).k fun st' => evOps all os st' k)
        | .tup [] => evOps all os (putO st o.dst (.tup [])) k
        | _ => none
      | none => none
/-! ### A region that draws its order -/
def isIn (l : List Nat) (j : Nat) : Bool := l.any (Nat.beq j)
def un : List Nat → List Nat → List Nat
  | acc, [] => acc
  | acc, x :: xs => un (bif isIn acc x then acc else x :: acc) xs
def befs : List Oper → List (List Nat) → List (List Nat)
  | [], acc => acc
  | o :: os, acc => befs os (acc ++ [un [] ((o.after.toList.filter (Region.binds .any)).flatMap fun e => e.on :: acc.getD e.on [])])
def hide (st : St) : List Oper → St
  | [] => st
  | o :: os => hide (match o.dst with
    | some d => (d, .u) :: forget d st
    | none => st) os
/-- The slot that an operation tells anew: its own, or that of the variable that it stores into. -/
def baseIn : List Oper → Nat → Nat
  | [], a => a
  | o :: os, a => match o.dst, o.op with
    | some d', .fieldAddr _ (.tmp d) _ => bif Nat.beq d' a then d else baseIn os a
    | _, _ => baseIn os a
def vdst (all : List Oper) (o : Oper) : Option Nat :=
  match o.dst with
  | some d => some d
  | none => match o.op with
    | .store _ (.tmp a) _ => some (baseIn all a)
    | _ => none
/-- The variables that are stored into are not seen, but by those that every store there comes behind. -/
def hideT (all : List Oper) (bs : List (List Nat)) (i : Nat) (st : St) : List Oper → Nat → St
  | [], _ => st
  | o :: os, j => match o.dst, vdst all o with
    | none, some d => bif isIn (bs.getD j []) i then hideT all bs i st os (j + 1) else (d, .u) :: hideT all bs i st os (j + 1)
    | _, _ => hideT all bs i st os (j + 1)
def noRefC (d : Nat) : Cell → Bool
  | .ref d' _ => !Nat.beq d d'
  | _ => true
def noRefA (d : Nat) : AV → Bool
  | .p _ cs => cs.all (noRefC d)
  | .tup ps => ps.all fun x => x.2.all (noRefC d)
  | .box _ cs => cs.all (noRefC d)
  | .ro cs _ => cs.all (noRefC d)
  | .pat d' _ => !Nat.beq d d'
  | .pel d' _ _ _ => !Nat.beq d d'
  | _ => true
def hasDst (ops : List Oper) (i : Nat) : Bool := match ops[i]? with
  | some o => o.dst.isSome
  | none => false
def allRs : List (Nat × Nat × AV) → St → St
  | [], st => st
  | (_, d, a) :: r, st => (d, a) :: allRs r st
/-- Of the values that were reckoned those of the operations that p tells. -/
def vis (p : Nat → Bool) : List (Nat × Nat × AV) → St → St
  | [], st => st
  | (i, d, a) :: r, st => bif p i then (d, a) :: vis p r st else vis p r st
def findR : List (Nat × Nat × AV) → Nat → Option AV
  | [], _ => none
  | (i, _, a) :: r, j => bif Nat.beq i j then some a else findR r j
def setR : List (Nat × Nat × AV) → Nat → AV → List (Nat × Nat × AV)
  | [], _, _ => []
  | (i, d, a) :: r, j, v => bif Nat.beq i j then (i, d, v) :: r else (i, d, a) :: setR r j v
def lit1 (b : Bool) : AV := .p false [.v (.bool b)]
def ownersOk (bs : List (List Nat)) (ops : List Oper) (rs : List (Nat × Nat × AV)) : Bool := rs.all fun e => !(owner e.2.2 && hasDst ops e.1) || (noRefA e.2.1 e.2.2 && rs.all fun e' => Nat.beq e.1 e'.1 || (isIn (bs.getD e'.1 []) e.1 || noRefA e.2.1 e'.2.2))
/-- One entry is a variable made, the other what is stored there: whoever comes behind the first comes behind the second or ahead of it. -/
def isBoxB : AV → Bool
  | .box _ _ => true
  | _ => false
def dupOk (bs : List (List Nat)) (ops : List Oper) (c : Nat) (e e' : Nat × Nat × AV) : Bool :=
  Nat.blt e.1 e'.1 && (hasDst ops e.1 && !hasDst ops e'.1) && (isBoxB e.2.2 && isBoxB e'.2.2) && isIn (bs.getD e'.1 []) e.1 && (List.range c).all fun m => Nat.beq m e'.1 || (!isIn (bs.getD m []) e.1 || (isIn (bs.getD m []) e'.1 || isIn (bs.getD e'.1 []) m))
def distOk (bs : List (List Nat)) (ops : List Oper) (c : Nat) (rs : List (Nat × Nat × AV)) : Bool := rs.all fun e => rs.all fun e' => Nat.beq e.1 e'.1 || (!Nat.beq e.2.1 e'.2.1 || (dupOk bs ops c e e' || dupOk bs ops c e' e))
/-- The variable of slot d, as it was ahead of the region or is made in it. -/
def boxAt (st0 : St) (g : Nat → AV) (d : Nat) : AV :=
  match get st0 d with
  | .box w bs => .box w bs
  | _ => g d
/-- Where in the variable of slot d the address in slot a points. -/
def addrAt (g : Nat → AV) (d a : Nat) : Option Nat :=
  bif Nat.beq a d then some 0 else match g a with
    | .pat d' p => bif Nat.beq d' d then some p else none
    | _ => none
/-- A store into a variable of the call's own that the region holds in a slot. -/
def drawStore (all : List Oper) (st0 : St) (g : Nat → AV) (o : Oper) : Option (Nat × AV) :=
  match o.guard, o.op with
  | none, .store t (.tmp a) x => match boxAt st0 g (baseIn all a), cellsOf (opnd E g x), addrAt g (baseIn all a) a with
    | .box w bs, some cs, some p =>
      let n := sizeP E.P t
      bif Nat.beq cs.length n && decide (p + n ≤ bs.length) && (!(takeAt bs p n).any isOwn && Nat.blt 0 n) && !cs.any lendsC then some (baseIn all a, .box w (setAll bs p cs)) else none
    | _, _, _ => none
  | _, _ => none
/-- A slice of the call's own, as one that is only read. -/
def lentC : Cell → Cell
  | .sl _ e xs => .sl 0 e xs
  | .ref _ _ => .u
  | c => c
def isBoxA : AV → Bool
  | .box true _ => true
  | _ => false
def lentA : AV → AV
  | .p a cs => bif cs.any isOwn then .p a (cs.map lentC) else .p a cs
  | av => av
def evDraw {R : Type} (all : List Oper) (bs : List (List Nat)) (st0 : St) (st : Nat → St) : List Oper → Nat → List (Nat × Nat × AV) → (List (Nat × Nat × AV) → Option R) → Option R
  | [], _, rs, k => k rs
  | o :: os, i, rs, k =>
    let bef := bs.getD i []
    match o.dst with
    | none => match drawStore E all st0 (get (vis (isIn bef) rs (st i))) o with
      | some (d, av) => evDraw all bs st0 st os (i + 1) ((i, d, av) :: rs) k
      | none => none
    | some d =>
    match o.guard with
    | none => (evQ E (get (vis (isIn bef) rs (st i))) o).k fun av => bif owner (lentA av) && !isBoxA (lentA av) then none else evDraw all bs st0 st os (i + 1) ((i, d, lentA av) :: rs) k
    | some (j, want) => bif !isIn bef j then none else match findR rs j with
      | some (.p false [.v (.bool b)]) =>
        bif b then (bif want then (evQ E (get (vis (isIn bef) (setR rs j (lit1 true)) (st i))) o).k fun av => bif owner (lentA av) && !isBoxA (lentA av) then none else evDraw all bs st0 st os (i + 1) ((i, d, lentA av) :: setR rs j (lit1 true)) k else evDraw all bs st0 st os (i + 1) ((i, d, .tup []) :: setR rs j (lit1 true)) k)
        else (bif want then evDraw all bs st0 st os (i + 1) ((i, d, .tup []) :: setR rs j (lit1 false)) k else (evQ E (get (vis (isIn bef) (setR rs j (lit1 false)) (st i))) o).k fun av => bif owner (lentA av) && !isBoxA (lentA av) then none else evDraw all bs st0 st os (i + 1) ((i, d, lentA av) :: setR rs j (lit1 false)) k)
      | some (.tup []) => evDraw all bs st0 st os (i + 1) ((i, d, .tup []) :: rs) k
      | _ => none
/-- The operations at the end that come behind all others in every order. -/
def covers (bs : List (List Nat)) (i : Nat) : Bool := (List.range i).all fun j => isIn (bs.getD i []) j
def tailFrom (bs : List (List Nat)) : Nat → Nat
  | 0 => 0
  | n + 1 => bif covers bs n then tailFrom bs n else n + 1
/-- The orders are as this evaluator reads them: everything that an operation comes behind has a smaller number. -/
def drawOk (ops : List Oper) (bs : List (List Nat)) : Bool :=
  (List.range ops.length).all fun i => (bs.getD i []).all fun j => Nat.blt j i
/-- A call that writes by a pointer, amid a region of free order: its number, the slot of the variable, and what that holds ahead of the call. -/
structure PtrC where
  ic : Nat
  b : Nat
  w : Bool
  x0 : List Cell
/-- A cell that stays as it is told, whatever else is done. -/
def okP : Cell → Bool
  | .v _ => true
  | .sl 0 _ _ => true
  | _ => false
def isPtrOp (st : St) (o : Oper) : Bool :=
  match o.op with
  | .call { callee := .value f, .. } => match specOf E st f with
    | some sp => isMut4 sp
    | none => false
  | _ => false
/-- Where a pointer comes from (a guess; the call is looked at again where it is reckoned). -/
def movedFrom : List Oper → Nat → Nat
  | [], a => a
  | o :: os, a => match o.dst, o.op with
    | some d, .move (.tmp b) => bif Nat.beq d a then b else movedFrom os a
    | _, _ => movedFrom os a
def pointsTo (st : St) (a : Nat) : Nat :=
  match get st a with
  | .pat d _ => d
  | _ => a
def ptrArg (o : Oper) : Option Nat :=
  match o.op with
  | .call { callee := .value _, args, .. } => match args.toList with
    | [.tmp a] => some a
    | _ => none
  | _ => none
def ptrOf (all : List Oper) (st : St) : List Oper → Nat → Option PtrC
  | [], _ => none
  | o :: os, i => bif isPtrOp E st o then
      match ptrArg o with
      | some a => match get st (pointsTo st (movedFrom all a)) with
        | .box w cs => bif cs.all okP then some ⟨i, pointsTo st (movedFrom all a), w, cs⟩ else none
        | _ => none
      | none => none
    else ptrOf all st os (i + 1)
/-- What the call hands back, and what the variable holds behind it. -/
def drawPtr (S : St) (b : Nat) (o : Oper) : Br (AV × List Cell) :=
  match o.op with
  | .call { callee := .value f, args, .. } => match specOf E S f, args.toList with
    | some sp, [x] => match sp.pt, opnd E (get S) x, get S b with
      | [(4, ks)], .pat b' 0, .box _ cs => bif Nat.beq b' b && (!cs.any isOwn && noSl sp.rt) && Nat.blt 0 ks.length then
          match packCells ks cs with
          | some ds => .opt (sp.G ds) fun t => .ret (mkR sp.rt t, cellsR (ks.map (·, 0)) t (countR sp.rt))
          | none => .none
        else .none
      | _, _, _ => .none
    | _, _ => .none
  | _ => .none
def unk (cs : List Cell) : List Cell := cs.map fun _ => .u
/-- The same region, with one call that writes by a pointer. -/
def evDrawP {R : Type} (ops : List Oper) (bs : List (List Nat)) (c : Nat) (v : PtrC) (st1 : St) (k : St → Option R) : Option R :=
  let sth := fun i => hideT ops bs i st1 (ops.take c) 0
  match ops[v.ic]? with
  | some o => match o.dst, o.guard with
    | some d, none => evDraw E ops bs st1 sth ((ops.take c).take v.ic) 0 [] fun rs =>
        (drawPtr E ((v.b, .box v.w v.x0) :: vis (isIn (bs.getD v.ic [])) rs (sth v.ic)) v.b o).k fun p =>
        bif owner p.1 || (!p.2.all okP || (!Nat.blt v.ic c || !Nat.beq p.2.length v.x0.length)) then none else
        evDraw E ops bs st1 sth ((ops.take c).drop (v.ic + 1)) (v.ic + 1) ((v.ic, d, p.1) :: rs) fun rs =>
          bif ownersOk bs ops rs && distOk bs ops c rs && rs.all (fun e => !Nat.beq e.2.1 v.b) then evOps E ops (ops.drop c) ((v.b, .box v.w p.2) :: allRs rs st1) k else none
    | _, _ => none
  | none => none
def evRegion {R : Type} (ops : List Oper) (st : St) (k : St → Option R) : Option R :=
  let bs := befs ops []
  let c := tailFrom bs ops.length
  bif !drawOk ops bs then none else
  let st0 := hide st (ops.take c)
  match ptrOf E ops st0 (ops.take c) 0 with
  | none => evDraw E ops bs st0 (fun i => hideT ops bs i st0 (ops.take c) 0) (ops.take c) 0 [] fun rs => bif ownersOk bs ops rs && distOk bs ops c rs then evOps E ops (ops.drop c) (allRs rs st0) k else none
  | some v => evDrawP E ops bs c v ((v.b, .box v.w (unk v.x0)) :: st0) k
/-! ### Code -/
inductive Ex where
  | normal
  | exit (id : Nat)
  | ret
def packKeepC (k : K × Nat) (c : Cell) : Option D :=
  match k.1, c with
  | .sl e, .sl o e' xs => bif Nat.beq e e' && Nat.beq o k.2 then some (.l xs) else none
  | .sl e, .v (.slice none 0 0) => bif Nat.ble k.2 1 && Nat.blt e 1000000000 then some (.l []) else none
  | k, c => packCell k c
def packKeepCs : List (K × Nat) → List Cell → Option (List D)
  | [], [] => some []
  | k :: ks, c :: cs => match packKeepC k c, packKeepCs ks cs with
    | some d, some ds => some (d :: ds)
    | _, _ => none
  | _, _ => none
def packKeep1 (f : Nat) (ks : List (K × Nat)) (a : AV) : Option (List D) :=
  match f, a with
  | 0, .p false cs => packKeepCs ks cs
  | 1, .p true cs => packKeepCs ks cs
  | 2, .ro cs 0 => packKeepCs ks cs
  | 5, .box true cs => packKeepCs ks cs
  | 6, .box false cs => packKeepCs ks cs
  | f + 10, .fn n => bif Nat.beq n f then packKeepCs ks [] else none
  | _, _ => none
def packKeep (st : St) : List (Nat × Nat × List (K × Nat)) → Option (List D)
  | [] => some []
  | (t, f, ks) :: r => match packKeep1 f ks (get st t), packKeep st r with
    | some d, some ds => some (d ++ ds)
    | _, _ => none
def mkForm (f : Nat) (cs : List Cell) : AV :=
  match f with
  | 0 => .p false cs
  | 1 => .p true cs
  | 2 => .ro cs 0
  | 5 => .box true cs
  | 6 => .box false cs
  | f + 10 => .fn f
  | _ => .u
def mkKeep : List (Nat × Nat × List (K × Nat)) → List D → Nat → St
  | [], _, _ => []
  | (t, f, ks) :: r, ds, i => (t, mkForm f (cellsR ks ds i)) :: mkKeep r ds (i + ks.length)
def endCode (lp : Loop) (c : Nat) (st : St) : Option (List D) :=
  bif lp.codes.any (Nat.beq c) then (packKeep st lp.keep).map (.i c :: ·) else none
/-- What follows a round. -/
def kLoop (lp : Loop) (cur : Nat) (again : List D → Option (List D)) : Ex → St → Option (List D)
  | .normal, st => match packKeep st lp.keep with
    | some ds => again ds
    | none => none
  | .exit id, st => bif Nat.beq id cur then endCode lp 0 st else endCode lp (id + 2) st
  | .ret, st => endCode lp 1 st
def slotsApart : List (Nat × Nat × List (K × Nat)) → Bool
  | [] => true
  | x :: r => !(r.any fun y => Nat.beq x.1 y.1) && slotsApart r
def keepOk (P : Program) (keep : List (Nat × Nat × List (K × Nat))) : Bool :=
  slotsApart keep && keep.all fun x => x.2.2.all fun k => (!Nat.beq x.2.1 2 || Nat.beq k.2 0) && match k.1 with
    | .sl e => Nat.blt 0 (kinds P e).length
    | _ => true
def okC (nt : Nat) : Code → Bool
  | .region _ ops _ => ops.toList.all fun o => match o.dst with
    | some d => Nat.blt d nt
    | none => true
  | .seq a b => okC nt a && okC nt b
  | .cond _ a b => okC nt a && okC nt b
  | .block _ c => okC nt c
  | .loop c => okC nt c
  | _ => true
def exOf : Nat → Ex
  | 0 => .normal
  | 1 => .ret
  | n + 2 => .exit n
def dispatch {R : Type} : List Nat → Int → (Nat → Option R) → Option R
  | [], _, _ => none
  | [c], _, f => f c
  | c :: cs, n, f => bif decide (n = (c : Int)) then f c else dispatch cs n f
def lit (st : St) (c : Operand) (b : Bool) : St :=
  match c with
  | .tmp t => (t, .p false [.v (.bool b)]) :: st
  | _ => st
def isLoop : Code → Bool
  | .loop _ => true
  | _ => false
def evC {R : Type} : Code → St → (Ex → St → Option R) → Option R
  | .skip, st, k => k .normal st
  | .region _ ops draw, st, k => bif draw then evRegion E ops.toList st (k .normal) else evOps E ops.toList ops.toList st (k .normal)
  | .seq a b, st, k => evC a st fun e st' => match e with
    | .normal => evC b st' k
    | e => k e st'
  | .cond c a b, st, k => match plainV (opnd E (get st) c) with
    | some (.bool t) => bif t then evC a (lit st c true) k else evC b (lit st c false) k
    | _ => none
  | .block id c, st, k =>
    bif isLoop c then
      match E.loop id with
      | some lp => bif !keepOk E.P lp.keep then none else match packKeep st lp.keep with
        | some ds => (lp.G E.fuel ds).bind fun t => dispatch lp.codes (t.getD 0 .j).int fun code => k (exOf code) (mkKeep lp.keep t 1)
        | none => none
      | none => none
    else evC c st fun e st' => match e with
      | .exit i => bif Nat.beq i id then k .normal st' else k (.exit i) st'
      | e => k e st'
  | .exit id, st, k => k (.exit id) st
  | .ret, st, k => k .ret st
  | _, _, _ => none
/-- The loops of a piece of code, each with the block around it. -/
def loopsOf : Code → List (Nat × Code)
  | .seq a b => loopsOf a ++ loopsOf b
  | .cond _ a b => loopsOf a ++ loopsOf b
  | .block id (.loop c) => (id, c) :: loopsOf c
  | .block _ c => loopsOf c
  | _ => []
def LoopOk (x : Nat × Code) : Prop := ∀ lp, E.loop x.1 = some lp → (∀ k ds, evC E x.2 (mkKeep lp.keep ds 0) (kLoop lp x.1 (lp.G k)) = lp.G (k + 1) ds) ∧ ∀ ds, lp.G 0 ds = none
/-! ### A function -/
def initSt : List (Nat × List K) → List D → Nat → Nat → St
  | [], _, _, _ => []
  | (f, ks) :: r, ds, i, t => (t, match f with
    | 0 => .p false (cellsR (ks.map (·, 0)) ds i)
    | 1 => .p true (cellsR (ks.map (·, 0)) ds i)
    | 2 => .ro (cellsR (ks.map (·, 0)) ds i) 0
    | 3 => .p false (cellsR (ks.map (·, 2)) ds i)
    | 4 => .box false (cellsR (ks.map (·, 0)) ds i)
    | 7 => .p false [.v (.slice none 0 0)]
    | f + 10 => .fn f
    | _ => .u) :: initSt r ds (i + ks.length) (t + 1)
/-- The cells of a result variable, and where they lie. -/
def resCells (st : St) (a : Bool) : ResultVar → Option (List Cell)
  | .tmp t => match get st t with
    | .p a' cs => bif a == a' then some (refsOf t cs 0) else none
    | _ => none
  | .cell t ty => match get st t with
    | .box _ cs => bif Nat.beq cs.length (sizeP E.P ty) && (knownP E.P ty && ((a == isAggP E.P ty) && (Nat.blt 0 cs.length && (a || Nat.beq cs.length 1)))) then some (refsOf t cs 0) else none
    | _ => none
def packResC (st : St) (k : K × Nat) (c : Cell) : Option D :=
  match k.1, res (get st) c with
  | .sl e, .sl o e' xs => bif Nat.beq e e' && (Nat.beq o k.2 || (Nat.beq o 1 && Nat.beq k.2 0)) then some (.l xs) else none
  | .sl e, .v (.slice none 0 0) => bif Nat.blt e 1000000000 then some (.l []) else none
  | k, c => packCell k c
def packResCs (st : St) : List (K × Nat) → List Cell → Option (List D)
  | [], [] => some []
  | k :: ks, c :: cs => match packResC st k c, packResCs st ks cs with
    | some d, some ds => some (d :: ds)
    | _, _ => none
  | _, _ => none
def packRes (st : St) : List (Bool × List (K × Nat)) → List ResultVar → Option (List D)
  | [], [] => some []
  | (a, ks) :: ps, r :: rs => match resCells E st a r with
    | some cs => match packResCs st ks cs, packRes st ps rs with
      | some d, some ds => some (d ++ ds)
      | _, _ => none
    | none => none
  | _, _ => none
def refs : List Cell → List (Nat × Nat)
  | [] => []
  | .ref d j :: cs => (d, j) :: refs cs
  | _ :: cs => refs cs
def distinctB : List (Nat × Nat) → Bool
  | [] => true
  | x :: xs => !(xs.any fun y => Nat.beq x.1 y.1 && Nat.beq x.2 y.2) && distinctB xs
def allRefs (st : St) : List (Bool × List (K × Nat)) → List ResultVar → List (Nat × Nat)
  | (a, _) :: ps, r :: rs => (match resCells E st a r with
    | some cs => refs cs
    | none => []) ++ allRefs st ps rs
  | _, _ => []
def packOuts (st : St) : List (Nat × List K) → Nat → Option (List D)
  | [], _ => some []
  | (f, ks) :: r, t => bif Nat.beq f 3 then
      match get st t, ks, packOuts st r (t + 1) with
      | .p false [.sl 2 e xs], [.sl e'], some ds => bif Nat.beq e e' then some (.l xs :: ds) else none
      | _, _, _ => none
    else bif Nat.beq f 4 then
      match get st t, packOuts st r (t + 1) with
      | .box false cs, some ds => match (bif cs.any isOwn then none else packCells ks cs) with
        | some d => some (d ++ ds)
        | none => none
      | _, _ => none
    else packOuts st r (t + 1)
def kFn (fn : Func) (sp : Spec) : Ex → St → Option (List D)
  | .exit _, _ => none
  | _, st => bif distinctB (allRefs E st sp.rt fn.results.toList) then
      match packRes E st sp.rt fn.results.toList, packOuts st sp.pt 0 with
      | some a, some b => some (a ++ b)
      | _, _ => none
    else none
def evFn (fn : Func) (sp : Spec) (ds : List D) : Option (List D) :=
  match fn.body with
  | some c => evC E c (initSt sp.pt ds 0 0) (kFn E fn sp)
  | none => none
end
end Go.Proofs.YtpanhndkcnojpaaDoor.Ev
/- What the evaluator's states say of the model's frames and memory, and how that stays true while memory changes elsewhere. No condition. -/
namespace Go.Proofs.YtpanhndkcnojpaaDoor.Ev
open Go Go.RowKit
set_option linter.unusedVariables false
set_option linter.unusedSimpArgs false
/-- Captured variables of whole numbers. -/
inductive CapsAt (w : World) (F : Nat → Prop) (rows : List (List D)) : List Nat → Nat → List Value → Prop
  | nil (i : Nat) : CapsAt w F rows [] i []
  | cons (n : Nat) (ns : List Nat) (i b o : Nat) (vs : List Value) (h0 : 0 < n) (hF : ¬ F b) (hc : ∀ j, j < n → w.cell? ⟨b, o + j, none⟩ = some (.int .i64 (ri rows 0 (i + j)))) (hr : CapsAt w F rows ns (i + n) vs) : CapsAt w F rows (n :: ns) i (.pointer (some ⟨b, o, none⟩) :: vs)
/-- Data d lies, as a cell of kind k, in value v; no memory that F forbids is used. -/
inductive RepD (P : Program) (w : World) (F : Nat → Prop) : K → D → Value → Prop
  | int (k : IntKind) (d : D) : RepD P w F (.int k) d (.int k d.int)
  | bool (d : D) : RepD P w F .bool d (.bool d.bool)
  | str (d : D) : RepD P w F .str d (.string d.str)
  | fn (e : TypeId) (d : D) (he : isFnT e = true) (hk : (kinds P e).length = 0) : RepD P w F (.sl e) d (.func (.func (fnOfT e)) #[] #[])
  | clo (e : TypeId) (d : D) (b : Nat) (he : isCloT e = true) (hk : (kinds P e).length = 0) (hF : ¬ F b) (hc : w.cell? ⟨b, 0, none⟩ = some (.func (.func (cloG e)) #[] #[])) : RepD P w F (.sl e) d (.func (.func (cloF e)) #[] #[.pointer (some ⟨b, 0, none⟩)])
  | cap (e : TypeId) (d : D) (vs : List Value) (he : isCapT e = true) (hk : (kinds P e).length = 0) (hc : CapsAt w F d.rows (lay e) 0 vs) : RepD P w F (.sl e) d (.func (.func (capF e)) #[] vs.toArray)
  | pnil (e : TypeId) (d : D) (he : isPtrT e = true) (hk : (kinds P e).length = 0) (h : d.rows = []) : RepD P w F (.sl e) d (.pointer none)
  | ptr (e : TypeId) (d : D) (b : Nat) (vs : Nat → Value) (he : isPtrT e = true) (hk : (kinds P e).length = 0) (hn : d.rows.length = 1) (h0 : 0 < (kinds P (ptrT e)).length) (hF : ¬ F b) (hc : ∀ j, j < (kinds P (ptrT e)).length → w.cell? ⟨b, j, none⟩ = some (vs j))
      (hr : ∀ j k, (kinds P (ptrT e))[j]? = some k → RepD P w F k ((d.rows.getD 0 []).getD j .j) (vs j)) : RepD P w F (.sl e) d (.pointer (some ⟨b, 0, none⟩))
  | nil (e : TypeId) (d : D) (a : Option Addr) (c : Nat) (h : d.rows = []) (hk : Nat.blt e 1000000000 = true ∨ 0 < (kinds P e).length) : RepD P w F (.sl e) d (.slice a 0 c)
  | sl (e : TypeId) (d : D) (b o c n : Nat) (vs : Nat → Nat → Value) (hn : n = d.rows.length) (h0 : 0 < n) (hm : 0 < (kinds P e).length) (hF : ¬ F b)
      (hc : ∀ i j, i < n → j < (kinds P e).length → w.cell? ⟨b, o + (i * (kinds P e).length + j), none⟩ = some (vs i j))
      (hr : ∀ i j k, i < n → (kinds P e)[j]? = some k → RepD P w F k ((d.rows.getD i []).getD j .j) (vs i j)) (hcp : n ≤ c) : RepD P w F (.sl e) d (.slice (some ⟨b, o, none⟩) n c)
theorem cell_same {w w' : World} {b o : Nat} (h : w'.heap[b]? = w.heap[b]?) : w'.cell? ⟨b, o, none⟩ = w.cell? ⟨b, o, none⟩ := World.cell?_of_block (a := ⟨b, o, none⟩) h
theorem cell_lt {w : World} {b o : Nat} {v : Value} (h : w.cell? ⟨b, o, none⟩ = some v) : b < w.heap.size := World.block_lt_of_cell? w ⟨b, o, none⟩ h
theorem CapsAt.change {w w' : World} {F F' : Nat → Prop} {rows : List (List D)} {ls : List Nat} {i : Nat} {vs : List Value} (h : CapsAt w F rows ls i vs) (hs : ∀ b, b < w.heap.size → ¬ F b → w'.heap[b]? = w.heap[b]? ∧ ¬ F' b) : CapsAt w' F' rows ls i vs := by
  induction h with
  | nil i => exact .nil i
  | cons n ns i b o vs h0 hF hc hr ih =>
    obtain ⟨h1, h2⟩ := hs b (cell_lt (hc 0 h0)) hF
    exact .cons n ns i b o vs h0 h2 (fun j hj => (cell_same h1).trans (hc j hj)) ih
theorem RepD.change {P : Program} {w w' : World} {F F' : Nat → Prop} {k : K} {d : D} {v : Value} (h : RepD P w F k d v) (hs : ∀ b, b < w.heap.size → ¬ F b → w'.heap[b]? = w.heap[b]? ∧ ¬ F' b) : RepD P w' F' k d v := by
  induction h with
  | int k d => exact .int k d
  | bool d => exact .bool d
  | str d => exact .str d
  | fn e d he hk => exact .fn e d he hk
  | clo e d b he hk hF hc =>
    obtain ⟨h1, h2⟩ := hs b (cell_lt hc) hF
    exact .clo e d b he hk h2 ((cell_same h1).trans hc)
  | cap e d vs he hk hc => exact .cap e d vs he hk (hc.change hs)
  | pnil e d he hk h => exact .pnil e d he hk h
  | ptr e d b vs he hk hn h0 hF hc hr ih =>
    obtain ⟨h1, h2⟩ := hs b (cell_lt (hc 0 h0)) hF
    exact .ptr e d b vs he hk hn h0 h2 (fun j hj => (cell_same h1).trans (hc j hj)) ih
  | nil e d a c h hk => exact .nil e d a c h hk
  | sl e d b o c n vs hn h0 hm hF hc hr hcp ih =>
    have hb : b < w.heap.size := cell_lt (hc 0 0 h0 hm)
    obtain ⟨h1, h2⟩ := hs b hb hF
    exact .sl e d b o c n vs hn h0 hm h2 (fun i j hi hj => (cell_same h1).trans (hc i j hi hj)) ih hcp
theorem RepD.one {P : Program} {w : World} {F : Nat → Prop} {k : K} {d : D} {v : Value} (h : RepD P w F k d v) : v.oneCell' = true := by
  cases h <;> rfl
/-- A slice of the call's own. -/
def Owns (P : Program) (w : World) (F : Nat → Prop) (e : TypeId) (xs : List (List D)) (v : Value) : Prop :=
  0 < (kinds P e).length ∧ ∃ flat, w.ownsRow 0 e (kinds P e).length v xs.length flat ∧ ∀ i j k, i < xs.length → (kinds P e)[j]? = some k → ∃ u, flat[i * (kinds P e).length + j]? = some u ∧ RepD P w F k ((xs.getD i []).getD j .j) u
theorem Owns.change {P : Program} {w w' : World} {F F' : Nat → Prop} {e : TypeId} {xs : List (List D)} {v : Value} (h : Owns P w F e xs v) (hs : ∀ b, b < w.heap.size → ¬ F b → w'.heap[b]? = w.heap[b]? ∧ ¬ F' b)
    (ho : ∀ b, v.ownBlock = some b → w'.heap[b]? = w.heap[b]?) : Owns P w' F' e xs v := by
  obtain ⟨hm0, flat, hf, hr⟩ := h
  refine ⟨hm0, flat, ⟨hf.1, ?_⟩, fun i j k hi hk => ?_⟩
  · rcases hf.2 with h | ⟨g, cap, cur, rfl, hg, hh, r⟩
    · exact .inl h
    · exact .inr ⟨g, cap, cur, rfl, hg, (ho g rfl).trans hh, r⟩
  · obtain ⟨u, h1, h2⟩ := hr i j k hi hk
    exact ⟨u, h1, h2.change hs⟩
theorem Owns.one {P : Program} {w : World} {F : Nat → Prop} {e : TypeId} {xs : List (List D)} {v : Value} (h : Owns P w F e xs v) : v.oneCell' = true := by
  obtain ⟨_, flat, hf, _⟩ := h
  rcases hf.2 with h | ⟨g, cap, cur, rfl, _⟩
  · rw [h.1]; rfl
  · rfl
structure Cx where
  P : Program
  w : World
  O : Nat → Option (Nat × Nat)
  N : Nat → Prop
  pl : Nat → Nat → Option (TypeId × Value)
  bx : Nat → Option Nat
  A : Nat → Value
def Forb (cx : Cx) (b : Nat) : Prop := cx.N b ∨ ∃ p, cx.O b = some p
def CellRep (cx : Cx) (d j : Nat) : Cell → Value → Prop
  | .u, _ => True
  | .v x, v => v = x
  | .sl 0 e xs, v => RepD cx.P cx.w (Forb cx) (.sl e) (.l xs) v
  | .sl (n + 1) e xs, v => Owns cx.P cx.w (Forb cx) e xs v ∧ cx.pl d j = some (e, v) ∧ (∀ b, v.ownBlock = some b → cx.O b = some (d, j + 1)) ∧ (n ≠ 0 → v = cx.A d)
  | .ref d' j', v => ∃ e, cx.pl d' j' = some (e, v)
def CellsRep (cx : Cx) (d off : Nat) (cs : List Cell) (vs : List Value) : Prop :=
  cs.length = vs.length ∧ (∀ v ∈ vs, v.oneCell' = true) ∧ ∀ j c v, cs[j]? = some c → vs[j]? = some v → CellRep cx d (off + j) c v
def PartsRep (cx : Cx) (d : Nat) : Nat → List (Bool × List Cell) → List Value → Prop
  | _, [], [] => True
  | off, (true, cs) :: ps, v :: vs => (∃ ws : List Value, v = .agg ws.toArray ∧ CellsRep cx d off cs ws) ∧ PartsRep cx d (off + cs.length) ps vs
  | off, (false, cs) :: ps, v :: vs => CellsRep cx d off cs [v] ∧ PartsRep cx d (off + cs.length) ps vs
  | _, _, _ => False
def AVRep (cx : Cx) (d : Nat) : AV → Value → Prop
  | .u, _ => True
  | .p false cs, v => CellsRep cx d 0 cs [v]
  | .p true cs, v => ∃ vs : List Value, v = .agg vs.toArray ∧ CellsRep cx d 0 cs vs
  | .tup ps, v => ∃ vs : List Value, v = .tuple vs.toArray ∧ PartsRep cx d 0 ps vs
  | .box own cs, v => ∃ (b : Nat) (vs : List Value) (t : TypeId), v = .pointer (some ⟨b, 0, none⟩) ∧ cx.bx d = some b ∧ cx.O b = some (d, 0) ∧ cx.w.heap[b]? = some (.cells vs.toArray t (0, 0)) ∧ CellsRep cx d 0 cs vs ∧ (own = false → v = cx.A d)
  | .pat d' o, v => ∃ b, cx.bx d' = some b ∧ v = .pointer (some ⟨b, o, none⟩)
  | .pel d' j i o, v => ∃ e b n c, cx.pl d' j = some (e, .slice (some ⟨b, 0, none⟩) n c) ∧ 0 ≤ i ∧ i < (n : Int) ∧ v = .pointer (some ⟨b, i.toNat * (kinds cx.P e).length + o, none⟩)
  | .ro cs o, v => ∃ (b off : Nat) (vs : List Value), v = .pointer (some ⟨b, off + o, none⟩) ∧ 0 < cs.length ∧ cs.all (fun c => !isOwn c) = true ∧ ¬ Forb cx b ∧ (∀ j u, vs[j]? = some u → cx.w.cell? ⟨b, off + j, none⟩ = some u) ∧ CellsRep cx d 0 cs vs
  | .fn f, v => v = .func (.func f) #[] #[]
/-- Memory changes: outside of S nothing; what is neither forbidden nor owned stays so; places stay, but for those that R tells. -/
structure Ch (cx cx' : Cx) (S : Nat → Prop) (R : Nat → Nat → Prop) (B : Nat → Prop) : Prop where
  P : cx'.P = cx.P
  A : cx'.A = cx.A
  hh : ∀ b, b < cx.w.heap.size → ¬ S b → cx'.w.heap[b]? = cx.w.heap[b]?
  hF : ∀ b, b < cx.w.heap.size → ¬ Forb cx b → ¬ S b ∧ ¬ Forb cx' b
  pl : ∀ d j, ¬ R d j → cx'.pl d j = cx.pl d j
  bx : ∀ d, ¬ B d → cx'.bx d = cx.bx d
def AvoidC (R : Nat → Nat → Prop) : Cell → Prop
  | .ref d j => ¬ R d j
  | _ => True
def AvoidCs (R : Nat → Nat → Prop) (cs : List Cell) : Prop := ∀ c ∈ cs, AvoidC R c
def Avoid (R : Nat → Nat → Prop) (B : Nat → Prop) : AV → Prop
  | .p _ cs => AvoidCs R cs
  | .tup ps => ∀ p ∈ ps, AvoidCs R p.2
  | .box _ cs => AvoidCs R cs
  | .pat d _ => ¬ B d
  | .pel d j _ _ => ¬ R d j
  | .ro cs _ => AvoidCs R cs
  | _ => True
section
variable {cx cx' : Cx} {S : Nat → Prop} {R : Nat → Nat → Prop} {B : Nat → Prop}
theorem CellRep.change (h : Ch cx cx' S R B) {d j : Nat} {c : Cell} {v : Value} (hc : CellRep cx d j c v) (hv : AvoidC R c)
    (hO : isOwn c = true → ¬ R d j ∧ ∀ b, cx.O b = some (d, j + 1) → b < cx.w.heap.size ∧ ¬ S b ∧ cx'.O b = some (d, j + 1)) : CellRep cx' d j c v := by
  have hs : ∀ b, b < cx.w.heap.size → ¬ Forb cx b → cx'.w.heap[b]? = cx.w.heap[b]? ∧ ¬ Forb cx' b := fun b hb hf => ⟨h.hh b hb (h.hF b hb hf).1, (h.hF b hb hf).2⟩
  cases c with
  | u => trivial
  | v x => exact hc
  | sl o e xs =>
    cases o with
    | zero => unfold CellRep at hc ⊢; rw [h.P]; exact hc.change hs
    | succ n =>
      obtain ⟨h1, h2⟩ := hO rfl
      obtain ⟨a, b, c, e'⟩ := hc
      unfold CellRep
      rw [h.P, h.A, h.pl d j h1]
      exact ⟨a.change hs fun b' hb' => h.hh b' (h2 b' (c b' hb')).1 (h2 b' (c b' hb')).2.1, b, fun b' hb' => (h2 b' (c b' hb')).2.2, e'⟩
  | ref d' j' =>
    obtain ⟨e, he⟩ := hc
    exact ⟨e, (h.pl d' j' hv).trans he⟩
theorem CellsRep.change (h : Ch cx cx' S R B) {d off : Nat} {cs : List Cell} {vs : List Value} (hc : CellsRep cx d off cs vs) (hv : AvoidCs R cs)
    (hO : ∀ j c, cs[j]? = some c → isOwn c = true → ¬ R d (off + j) ∧ ∀ b, cx.O b = some (d, off + j + 1) → b < cx.w.heap.size ∧ ¬ S b ∧ cx'.O b = some (d, off + j + 1)) : CellsRep cx' d off cs vs :=
  ⟨hc.1, hc.2.1, fun j c v h1 h2 => (hc.2.2 j c v h1 h2).change h (hv c (List.mem_of_getElem? h1)) (hO j c h1)⟩
theorem PartsRep.change (h : Ch cx cx' S R B) {d : Nat} : ∀ {ps : List (Bool × List Cell)} {off : Nat} {vs : List Value}, PartsRep cx d off ps vs → (∀ p ∈ ps, AvoidCs R p.2) →
    (∀ j c, (ps.flatMap (·.2))[j]? = some c → isOwn c = true → ¬ R d (off + j) ∧ ∀ b, cx.O b = some (d, off + j + 1) → b < cx.w.heap.size ∧ ¬ S b ∧ cx'.O b = some (d, off + j + 1)) → PartsRep cx' d off ps vs
  | [], off, [], _, _, _ => trivial
  | [], off, v :: vs, hp, _, _ => by simp [PartsRep] at hp
  | p :: ps, off, [], hp, _, _ => by obtain ⟨a, cs⟩ := p; cases a <;> simp [PartsRep] at hp
  | (a, cs) :: ps, off, v :: vs, hp, hv, hO => by
    have hO1 : ∀ j c, cs[j]? = some c → isOwn c = true → ¬ R d (off + j) ∧ ∀ b, cx.O b = some (d, off + j + 1) → b < cx.w.heap.size ∧ ¬ S b ∧ cx'.O b = some (d, off + j + 1) := by
      intro j c hj
      refine hO j c ?_
      rw [List.flatMap_cons, List.getElem?_append_left (List.getElem?_eq_some_iff.1 hj).1]; exact hj
    have hO2 : ∀ j c, (ps.flatMap (·.2))[j]? = some c → isOwn c = true → ¬ R d (off + cs.length + j) ∧ ∀ b, cx.O b = some (d, off + cs.length + j + 1) → b < cx.w.heap.size ∧ ¬ S b ∧ cx'.O b = some (d, off + cs.length + j + 1) := by
      intro j c hj
      have := hO (cs.length + j) c (by rw [List.flatMap_cons, List.getElem?_append_right (Nat.le_add_right cs.length j)]; simpa using hj)
      simpa [Nat.add_assoc] using this
    cases a with
    | true =>
      obtain ⟨⟨ws, rfl, hc⟩, hr⟩ := hp
      exact ⟨⟨ws, rfl, hc.change h (hv (true, cs) (List.mem_cons_self ..)) hO1⟩, hr.change h (fun p hp' => hv p (by simp [hp'])) hO2⟩
    | false =>
      obtain ⟨hc, hr⟩ := hp
      exact ⟨hc.change h (hv (false, cs) (List.mem_cons_self ..)) hO1, hr.change h (fun p hp' => hv p (by simp [hp'])) hO2⟩
/-- The cells of a slot, in their places. -/
def cellsIn : AV → List Cell
  | .p _ cs => cs
  | .tup ps => ps.flatMap (·.2)
  | .box _ cs => cs
  | _ => []
theorem AVRep.change (h : Ch cx cx' S R B) {d : Nat} {av : AV} {v : Value} (ha : AVRep cx d av v) (hv : Avoid R B av)
    (hO : ∀ j c, (cellsIn av)[j]? = some c → isOwn c = true → ¬ R d j ∧ ∀ b, cx.O b = some (d, j + 1) → b < cx.w.heap.size ∧ ¬ S b ∧ cx'.O b = some (d, j + 1))
    (hb : ∀ o cs, av = .box o cs → ¬ B d ∧ ∀ b, cx.O b = some (d, 0) → b < cx.w.heap.size ∧ ¬ S b ∧ cx'.O b = some (d, 0)) : AVRep cx' d av v := by
  cases av with
  | u => trivial
  | p a cs =>
    cases a with
    | true =>
      obtain ⟨vs, rfl, hc⟩ := ha
      exact ⟨vs, rfl, hc.change h hv (by simpa [cellsIn] using hO)⟩
    | false =>
      have hc : CellsRep cx d 0 cs [v] := ha
      exact hc.change h hv (by simpa [cellsIn] using hO)
  | tup ps =>
    obtain ⟨vs, rfl, hc⟩ := ha
    exact ⟨vs, rfl, hc.change h hv (by simpa [cellsIn] using hO)⟩
  | box o cs =>
    obtain ⟨b, vs, t, rfl, h1, h2, h3, hc, hA⟩ := ha
    obtain ⟨hB, hb'⟩ := hb o cs rfl
    obtain ⟨hlt, hs, ho⟩ := hb' b h2
    exact ⟨b, vs, t, rfl, (h.bx d hB).trans h1, ho, (h.hh b hlt hs).trans h3, hc.change h hv (by simpa [cellsIn] using hO), fun e => (hA e).trans (by rw [h.A])⟩
  | pat d' o =>
    obtain ⟨b, h1, rfl⟩ := ha
    exact ⟨b, (h.bx d' hv).trans h1, rfl⟩
  | pel d' j i o =>
    obtain ⟨e, b, n, c, h1, h2, h3, rfl⟩ := ha
    exact ⟨e, b, n, c, (h.pl d' j hv).trans h1, h2, h3, by rw [h.P]⟩
  | ro cs o =>
    obtain ⟨b, off, vs, rfl, h0, hw, hf, hm, hc⟩ := ha
    have h0v : 0 < vs.length := hc.1 ▸ h0
    have hlt : b < cx.w.heap.size := cell_lt (hm 0 _ (List.getElem?_eq_getElem h0v))
    refine ⟨b, off, vs, rfl, h0, hw, (h.hF b hlt hf).2, fun j u hj => (cell_same (h.hh b hlt (h.hF b hlt hf).1)).trans (hm j u hj), hc.change h hv fun j c hj ho => ?_⟩
    have := List.all_eq_true.1 hw c (List.mem_of_getElem? hj)
    rw [ho] at this; simp at this
  | fn f => exact ha
end
end Go.Proofs.YtpanhndkcnojpaaDoor.Ev
/- The evaluator's states: operands, and a value put into a slot. No condition. -/
namespace Go.Proofs.YtpanhndkcnojpaaDoor.Ev
open Go Go.RowKit
set_option linter.unusedVariables false
set_option linter.unusedSimpArgs false
structure KeptX (X : Nat → Prop) (w0 w : World) : Prop where
  os : w.os = w0.os
  tape : w.tape = w0.tape
  output : w.output = w0.output
  size : w0.heap.size ≤ w.heap.size
  block : ∀ k, k < w0.heap.size → ¬ X k → w.heap[k]? = w0.heap[k]?
theorem KeptX.below {X : Nat → Prop} {w0 w w' : World} (h : KeptX X w0 w) (hb : Below w.heap.size w w') : KeptX X w0 w' :=
  ⟨hb.os.trans h.os, hb.tape.trans h.tape, hb.output.trans h.output, Nat.le_trans h.size hb.size, fun k hk hx => (hb.block k (Nat.lt_of_lt_of_le hk h.size)).trans (h.block k hk hx)⟩
/-- A variable of the package: its block, unwritten. -/
def GlobAt (w : World) (F : Nat → Prop) (n : Nat) (vs : List Value) : Prop :=
  0 < vs.length ∧ (∀ v ∈ vs, v.oneCell' = true) ∧ ¬ F n ∧ ∃ t i, w.heap[n]? = some (.cells vs.toArray t i)
def GlobsAt (glob : Nat → Option (List Value)) (w : World) (F : Nat → Prop) : Prop := ∀ n vs, glob n = some vs → GlobAt w F n vs
theorem GlobAt.lt {w : World} {F : Nat → Prop} {n : Nat} {vs : List Value} (h : GlobAt w F n vs) : n < w.heap.size := by
  obtain ⟨_, _, _, t, i, h⟩ := h
  exact (Array.getElem?_eq_some_iff.1 h).1
theorem GlobsAt.weaken {gl : Nat → Option (List Value)} {w : World} {F F' : Nat → Prop} (h : GlobsAt gl w F) (hF : ∀ b, F' b → F b) : GlobsAt gl w F' := fun n vs hg => by
  obtain ⟨h0, h1, h2, h3⟩ := h n vs hg
  exact ⟨h0, h1, fun hf => h2 (hF _ hf), h3⟩
theorem GlobsAt.none {w : World} {F : Nat → Prop} : GlobsAt (look []) w F := fun n vs h => by cases h
structure Rel (E : Env) (w0 : World) (X : Nat → Prop) (st : St) (a : Act) (cx : Cx) : Prop where
  P : cx.P = E.P
  defers : a.defers = []
  kept : KeptX X w0 cx.w
  own : ∀ b p, cx.O b = some p → b < cx.w.heap.size ∧ (w0.heap.size ≤ b ∨ X b)
  non : ∀ b, cx.N b → b < w0.heap.size ∧ ¬ X b
  glob : GlobsAt E.glob w0 fun b => X b ∨ cx.N b
  nt : a.tmps.size = E.nt
  slots : ∀ t, AVRep cx t (get st t) (a.tmps.getD t undef)
theorem get_cons (t i : Nat) (av : AV) (st : St) : get ((i, av) :: st) t = if i = t then av else get st t := by
  show (bif Nat.beq i t then av else get st t) = _
  by_cases h : i = t
  · subst h; simp
  · rw [if_neg h, show Nat.beq i t = false from by rw [Bool.eq_false_iff]; exact fun hh => h (Nat.eq_of_beq_eq_true hh)]; rfl
theorem get_forget (d t : Nat) : ∀ st : St, get (forget d st) t = forgetA d (get st t)
  | [] => rfl
  | (i, a) :: r => by
    have ih := get_forget d t r
    show get ((i, forgetA d a) :: forget d r) t = _
    rw [get_cons, get_cons, ih]; split <;> rfl
theorem CellRep.moved {cx : Cx} {d j d' j' : Nat} {c : Cell} {v : Value} (ho : isOwn c = false) (h : CellRep cx d j c v) : CellRep cx d' j' c v := by
  cases c with
  | u => trivial
  | v x => exact h
  | sl o e xs => cases o with
    | zero => exact h
    | succ n => simp [isOwn] at ho
  | ref _ _ => exact h
theorem CellsRep.moved {cx : Cx} {d off d' off' : Nat} {cs : List Cell} {vs : List Value} (ho : ∀ c ∈ cs, isOwn c = false) (h : CellsRep cx d off cs vs) : CellsRep cx d' off' cs vs :=
  ⟨h.1, h.2.1, fun j c v h1 h2 => (h.2.2 j c v h1 h2).moved (ho c (List.mem_of_getElem? h1))⟩
theorem refsOf_get (t : Nat) : ∀ (cs : List Cell) (off j : Nat) (c : Cell), (refsOf t cs off)[j]? = some c → ∃ c0, cs[j]? = some c0 ∧ c = (bif isOwn c0 then .ref t (off + j) else c0)
  | [], _, j, c, h => by simp [refsOf] at h
  | c0 :: cs, off, 0, c, h => ⟨c0, rfl, by simpa [refsOf, eq_comm] using h⟩
  | c0 :: cs, off, j + 1, c, h => by
    obtain ⟨c1, h1, h2⟩ := refsOf_get t cs (off + 1) j c (by simpa [refsOf] using h)
    exact ⟨c1, by simpa using h1, by rw [h2]; congr 2; omega⟩
theorem refsOf_length (t : Nat) : ∀ (cs : List Cell) (off : Nat), (refsOf t cs off).length = cs.length
  | [], _ => rfl
  | c :: cs, off => by simp [refsOf, refsOf_length t cs]
theorem refsOf_noOwn (t : Nat) (cs : List Cell) (off : Nat) : ∀ c ∈ refsOf t cs off, isOwn c = false := by
  intro c hc
  obtain ⟨j, hj⟩ := List.mem_iff_getElem?.1 hc
  obtain ⟨c0, _, rfl⟩ := refsOf_get t cs off j c hj
  cases h : isOwn c0 with
  | false => exact h
  | true => rfl
theorem CellsRep.refs {cx : Cx} {t off d' off' : Nat} {cs : List Cell} {vs : List Value} (h : CellsRep cx t off cs vs) : CellsRep cx d' off' (refsOf t cs off) vs := by
  refine ⟨(refsOf_length t cs off).trans h.1, h.2.1, fun j c v h1 h2 => ?_⟩
  obtain ⟨c0, h3, rfl⟩ := refsOf_get t cs off j c h1
  have h4 := h.2.2 j c0 v h3 h2
  cases ho : isOwn c0 with
  | false => exact h4.moved ho
  | true =>
    cases c0 with
    | sl o e xs => cases o with
      | zero => simp [isOwn] at ho
      | succ n => exact ⟨e, h4.2.1⟩
    | _ => simp [isOwn] at ho
theorem PartsRep.refs {cx : Cx} {t d' : Nat} : ∀ {ps : List (Bool × List Cell)} {off off' : Nat} {vs : List Value}, PartsRep cx t off ps vs → PartsRep cx d' off' (refsTup t ps off) vs
  | [], _, _, [], _ => trivial
  | [], _, _, _ :: _, h => by simp [PartsRep] at h
  | p :: ps, _, _, [], h => by obtain ⟨a, cs⟩ := p; cases a <;> simp [PartsRep] at h
  | (true, cs) :: ps, off, off', v :: vs, h => by
    obtain ⟨⟨ws, rfl, hc⟩, hr⟩ := h
    exact ⟨⟨ws, rfl, hc.refs⟩, hr.refs⟩
  | (false, cs) :: ps, off, off', v :: vs, h => by
    obtain ⟨hc, hr⟩ := h
    exact ⟨hc.refs, hr.refs⟩
theorem copy_rep {cx : Cx} {t d : Nat} {av : AV} {v : Value} (h : AVRep cx t av v) : AVRep cx d (copyOf t av) v := by
  cases av with
  | u => trivial
  | p a cs => cases a with
    | true => obtain ⟨vs, rfl, hc⟩ := h; exact ⟨vs, rfl, hc.refs⟩
    | false => have hc : CellsRep cx t 0 cs [v] := h; exact hc.refs
  | tup ps => obtain ⟨vs, rfl, hc⟩ := h; exact ⟨vs, rfl, hc.refs⟩
  | box o cs => obtain ⟨b, vs, t', rfl, h1, h2, h3, hc⟩ := h; exact ⟨b, h1, rfl⟩
  | pat d' o => exact h
  | pel d' j i o => exact h
  | ro cs o =>
    obtain ⟨b, off, vs, rfl, h0, hw, hf, hm, hc⟩ := h
    exact ⟨b, off, vs, rfl, h0, hw, hf, hm, hc.moved fun c hc' => by have := List.all_eq_true.1 hw c hc'; simpa using this⟩
  | fn f => exact h
theorem refsTup_noOwn (t : Nat) : ∀ (ps : List (Bool × List Cell)) (off : Nat), ∀ p ∈ refsTup t ps off, ∀ c ∈ p.2, isOwn c = false
  | [], _, _, h => by simp [refsTup] at h
  | (a, cs) :: ps, off, p, h => by
    rcases List.mem_cons.1 h with rfl | h
    · exact refsOf_noOwn t cs off
    · exact refsTup_noOwn t ps _ p h
theorem copy_noOwner (t : Nat) (av : AV) : owner (copyOf t av) = false := by
  cases av with
  | p a cs => simp only [copyOf, owner, List.any_eq_false]; intro c hc; simp [refsOf_noOwn t cs 0 c hc]
  | tup ps => simp only [copyOf, owner, List.any_eq_false]; intro p hp; simp only [List.any_eq_true, not_exists, not_and]; intro c hc; simp [refsTup_noOwn t ps 0 p hp c hc]
  | _ => rfl
theorem ofV_rep (cx : Cx) (d : Nat) (v : Value) : AVRep cx d (ofV v) v := by
  have one : ∀ x : Value, x.oneCell' = true → AVRep cx d (.p false [.v x]) x := fun x hx =>
    show CellsRep cx d 0 [.v x] [x] from ⟨rfl, by simpa using hx, fun j c v' h1 h2 => by
      cases j with
      | zero => obtain rfl := Option.some.inj h1; obtain rfl := Option.some.inj h2; rfl
      | succ j => simp at h1⟩
  cases v with
  | agg cs =>
    show AVRep cx d (bif cs.toList.all Value.oneCell' then .p true (cs.toList.map .v) else .u) _
    cases h : cs.toList.all Value.oneCell' with
    | false => trivial
    | true =>
      refine ⟨cs.toList, by simp, by simp, fun x hx => List.all_eq_true.1 h x hx, fun j c v' h1 h2 => ?_⟩
      rw [List.getElem?_map, h2] at h1
      obtain rfl := Option.some.inj h1; rfl
  | tuple vs => trivial
  | _ => exact one _ rfl
theorem ofV_noOwner (v : Value) : owner (ofV v) = false := by
  cases v with
  | agg cs =>
    show owner (bif cs.toList.all Value.oneCell' then .p true (cs.toList.map .v) else .u) = false
    cases cs.toList.all Value.oneCell' with
    | false => rfl
    | true => simp only [cond_true, owner, List.any_eq_false]; intro c hc; obtain ⟨x, _, rfl⟩ := List.mem_map.1 hc; simp [isOwn]
  | _ => rfl
section
variable {E : Env} {w0 : World} {X : Nat → Prop} {st : St} {a : Act} {cx : Cx}
theorem Rel.globAt (h : Rel E w0 X st a cx) {F : Nat → Prop} (hF : ∀ b, F b → Forb cx b) : GlobsAt E.glob cx.w F := fun n vs hg => by
  have hlt := (h.glob n vs hg).lt
  obtain ⟨h0, h1, h2, t, i, h3⟩ := h.glob n vs hg
  refine ⟨h0, h1, fun hf => ?_, t, i, (h.kept.block n hlt fun hx => h2 (.inl hx)).trans h3⟩
  rcases hF n hf with hN | ⟨p, hO⟩
  · exact h2 (.inr hN)
  · rcases (h.own n p hO).2 with h4 | h4
    · omega
    · exact h2 (.inl h4)
theorem Rel.globRep (h : Rel E w0 X st a cx) (d n : Nat) {vs : List Value} (hg : E.glob n = some vs) : AVRep cx d (.ro (vs.map .v) 0) (.pointer (some ⟨n, 0, none⟩)) := by
  obtain ⟨h0, h1, h2, t, i, h3⟩ := h.globAt (fun b hb => hb) n vs hg
  refine ⟨n, 0, vs, rfl, by simpa using h0, ?_, h2, fun j u hu => ?_, by simp, h1, fun j c v hc hv => ?_⟩
  · rw [List.all_eq_true]; intro c hc; obtain ⟨v, _, rfl⟩ := List.mem_map.1 hc; rfl
  · rw [Nat.zero_add, cell_of_row _ n j _ t i h3]; simpa using hu
  · rw [List.getElem?_map, hv] at hc
    obtain rfl := Option.some.inj hc; rfl
theorem Rel.opnd (h : Rel E w0 X st a cx) (d : Nat) (x : Operand) : AVRep cx d (opnd E (get st) x) (a.eval x) := by
  cases x with
  | tmp t => exact copy_rep (h.slots t)
  | const v => exact ofV_rep cx d v
  | global n =>
    cases hg : E.glob n with
    | none => simp only [Ev.opnd, hg]; trivial
    | some vs =>
      simp only [Ev.opnd, hg]
      exact h.globRep d n hg
  | func f => exact rfl
theorem opnd_noOwner (E : Env) (g : Nat → AV) {p : Prop} (hg : p) (x : Operand) : owner (opnd E g x) = false := by
  cases x with
  | tmp t => exact copy_noOwner t _
  | const v => exact ofV_noOwner v
  | global n => simp only [Ev.opnd]; cases E.glob n <;> rfl
  | func f => rfl
theorem allV_spec : ∀ {cs : List Cell} {l : List Value}, allV cs = some l → cs = l.map .v
  | [], l, h => by simp [allV] at h; subst h; rfl
  | .v x :: cs, l, h => by
    simp only [allV, Option.map_eq_some_iff] at h
    obtain ⟨l', h1, rfl⟩ := h
    rw [allV_spec h1]; rfl
  | .u :: cs, l, h => by simp [allV] at h
  | .sl .. :: cs, l, h => by simp [allV] at h
  | .ref .. :: cs, l, h => by simp [allV] at h
theorem CellsRep.vs {cx : Cx} {d off : Nat} {l vs : List Value} (h : CellsRep cx d off (l.map .v) vs) : vs = l := by
  apply List.ext_getElem?
  intro j
  have hl : l.length = vs.length := by simpa using h.1
  by_cases hj : j < vs.length
  · have h1 := h.2.2 j (.v (l[j]'(by omega))) vs[j] (by simp [List.getElem?_eq_getElem (show j < l.length by omega)]) (List.getElem?_eq_getElem hj)
    rw [List.getElem?_eq_getElem hj, List.getElem?_eq_getElem (show j < l.length by omega)]
    exact congrArg some h1
  · rw [List.getElem?_eq_none (by omega), List.getElem?_eq_none (by omega)]
theorem plain_rep {cx : Cx} {d : Nat} {av : AV} {v x : Value} (h : AVRep cx d av v) (hx : plainV av = some x) : v = x := by
  unfold plainV at hx
  split at hx
  · obtain rfl := Option.some.inj hx
    exact h.2.2 0 _ _ rfl rfl
  · rename_i cs
    obtain ⟨l, h1, rfl⟩ := Option.map_eq_some_iff.1 hx
    obtain ⟨vs, rfl, hc⟩ := h
    rw [allV_spec h1] at hc
    rw [hc.vs]
  · cases hx
theorem Rel.plain (h : Rel E w0 X st a cx) {x : Operand} {v : Value} (hx : plainV (Ev.opnd E (get st) x) = some v) : a.eval x = v := plain_rep (h.opnd 0 x) hx
/-! ### Forgetting -/
theorem CellsRep.map {cx : Cx} {d off : Nat} {cs : List Cell} {vs : List Value} (f : Cell → Cell) (hf : ∀ c, f c = c ∨ f c = .u) (h : CellsRep cx d off cs vs) : CellsRep cx d off (cs.map f) vs := by
  refine ⟨by simpa using h.1, h.2.1, fun j c v h1 h2 => ?_⟩
  rw [List.getElem?_map] at h1
  obtain ⟨c0, h3, rfl⟩ := Option.map_eq_some_iff.1 h1
  rcases hf c0 with e | e
  · rw [e]; exact h.2.2 j c0 v h3 h2
  · rw [e]; trivial
theorem forgetC_or (d : Nat) (c : Cell) : forgetC d c = c ∨ forgetC d c = .u := by
  cases c with
  | ref d' j => simp only [forgetC]; cases Nat.beq d d' <;> simp
  | _ => exact .inl rfl
theorem forgetRC_or (d j : Nat) (c : Cell) : forgetRC d j c = c ∨ forgetRC d j c = .u := by
  cases c with
  | ref d' j' => simp only [forgetRC]; cases (Nat.beq d d' && Nat.beq j j') <;> simp
  | _ => exact .inl rfl
theorem PartsRep.map {cx : Cx} {d : Nat} (f : Cell → Cell) (hf : ∀ c, f c = c ∨ f c = .u) : ∀ {ps : List (Bool × List Cell)} {off : Nat} {vs : List Value}, PartsRep cx d off ps vs → PartsRep cx d off (ps.map fun x => (x.1, x.2.map f)) vs
  | [], _, [], _ => trivial
  | [], _, _ :: _, h => by simp [PartsRep] at h
  | p :: ps, _, [], h => by obtain ⟨a, cs⟩ := p; cases a <;> simp [PartsRep] at h
  | (true, cs) :: ps, off, v :: vs, h => by
    obtain ⟨⟨ws, rfl, hc⟩, hr⟩ := h
    refine ⟨⟨ws, rfl, hc.map f hf⟩, ?_⟩
    have := hr.map f hf
    simpa using this
  | (false, cs) :: ps, off, v :: vs, h => by
    obtain ⟨hc, hr⟩ := h
    refine ⟨hc.map f hf, ?_⟩
    have := hr.map f hf
    simpa using this
theorem all_map_noOwn {f : Cell → Cell} (hf : ∀ c, f c = c ∨ f c = .u) {cs : List Cell} (h : cs.all (fun c => !isOwn c) = true) : (cs.map f).all (fun c => !isOwn c) = true := by
  rw [List.all_eq_true] at h ⊢
  intro c hc
  obtain ⟨c0, h0, rfl⟩ := List.mem_map.1 hc
  rcases hf c0 with e | e
  · rw [e]; exact h c0 h0
  · rw [e]; rfl
theorem AVRep.mapped {cx : Cx} {d : Nat} {av av' : AV} {v : Value} (f : Cell → Cell) (hf : ∀ c, f c = c ∨ f c = .u) (h : AVRep cx d av v)
    (he : av' = .u ∨ av' = (match av with | .p a cs => .p a (cs.map f) | .tup ps => .tup (ps.map fun x => (x.1, x.2.map f)) | .box o cs => .box o (cs.map f) | .ro cs o => .ro (cs.map f) o | av => av)) : AVRep cx d av' v := by
  rcases he with rfl | rfl
  · trivial
  cases av with
  | p a cs => cases a with
    | true => obtain ⟨vs, rfl, hc⟩ := h; exact ⟨vs, rfl, hc.map f hf⟩
    | false => have hc : CellsRep cx d 0 cs [v] := h; exact hc.map f hf
  | tup ps => obtain ⟨vs, rfl, hc⟩ := h; exact ⟨vs, rfl, hc.map f hf⟩
  | box o cs => obtain ⟨b, vs, t', rfl, h1, h2, h3, hc, hA⟩ := h; exact ⟨b, vs, t', rfl, h1, h2, h3, hc.map f hf, hA⟩
  | ro cs o => obtain ⟨b, off, vs, rfl, h0, hw, hF, hm, hc⟩ := h; exact ⟨b, off, vs, rfl, by simpa using h0, all_map_noOwn hf hw, hF, hm, hc.map f hf⟩
  | _ => exact h
theorem AVRep.forget {cx : Cx} {d : Nat} {av : AV} {v : Value} (h : AVRep cx d av v) (d' : Nat) : AVRep cx d (forgetA d' av) v := by
  refine h.mapped (forgetC d') (forgetC_or d') ?_
  cases av with
  | pat d'' o => simp only [forgetA]; cases Nat.beq d' d'' <;> simp
  | pel d'' j i o => simp only [forgetA]; cases Nat.beq d' d'' <;> simp
  | _ => exact .inr rfl
theorem avoid_forgetC (d : Nat) (c : Cell) : AvoidC (fun d' _ => d' = d) (forgetC d c) := by
  cases c with
  | ref d' j =>
    simp only [forgetC]
    cases h : Nat.beq d d' with
    | true => trivial
    | false => exact fun e => by subst e; simp at h
  | _ => trivial
theorem avoid_cells (d : Nat) (cs : List Cell) : AvoidCs (fun d' _ => d' = d) (cs.map (forgetC d)) := by
  intro c hc
  obtain ⟨c0, _, rfl⟩ := List.mem_map.1 hc
  exact avoid_forgetC d c0
theorem avoid_forget (d : Nat) (av : AV) : Avoid (fun d' _ => d' = d) (fun d' => d' = d) (forgetA d av) := by
  cases av with
  | p a cs => exact avoid_cells d cs
  | tup ps => intro p hp; obtain ⟨p0, _, rfl⟩ := List.mem_map.1 hp; exact avoid_cells d _
  | box o cs => exact avoid_cells d cs
  | ro cs o => exact avoid_cells d cs
  | pat d' o =>
    simp only [forgetA]
    cases h : Nat.beq d d' with
    | true => trivial
    | false => exact fun e => by subst e; simp at h
  | pel d' j i o =>
    simp only [forgetA]
    cases h : Nat.beq d d' with
    | true => trivial
    | false => exact fun e => by subst e; simp at h
  | _ => trivial
theorem forgetC_own (d : Nat) (c : Cell) : isOwn (forgetC d c) = isOwn c := by
  cases c with
  | ref d' j => simp only [forgetC]; cases Nat.beq d d' <;> rfl
  | _ => rfl
/-- No own cell, no variable: nothing that a place could be. -/
theorem noOwner_cells {av : AV} (h : owner av = false) : (∀ c ∈ cellsIn av, isOwn c = false) ∧ ∀ o cs, av ≠ .box o cs := by
  cases av with
  | p a cs => exact ⟨fun c hc => by have := List.any_eq_false.1 h c hc; simpa using this, fun _ _ => by simp⟩
  | tup ps =>
    refine ⟨fun c hc => ?_, fun _ _ => by simp⟩
    obtain ⟨p, hp, hc⟩ := List.mem_flatMap.1 hc
    have := List.any_eq_false.1 h p hp
    simp only [List.any_eq_true, not_exists, not_and] at this
    simpa using this c hc
  | box o cs => simp [owner] at h
  | _ => exact ⟨fun c hc => by simp [cellsIn] at hc, fun _ _ => by simp⟩
/-- What an operation hands back, in the world that it leaves: its own rows are new blocks. -/
def cxd (cx : Cx) (w' : World) (own : Nat → Option Nat) (d : Nat) (pl' : Nat → Option (TypeId × Value)) (bx' : Option Nat) : Cx :=
  { cx with w := w', O := fun b => match own b with | some j => some (d, j) | none => cx.O b, pl := fun d' j => if d' = d then pl' j else cx.pl d' j, bx := fun d' => if d' = d then bx' else cx.bx d' }
structure New (cx : Cx) (w' : World) (av : AV) (v : Value) : Prop where
  below : Below cx.w.heap.size cx.w w'
  plain : owner av = false → ∀ d, AVRep { cx with w := w' } d av v
  owns : owner av = true → ∃ own : Nat → Option Nat, (∀ b j, own b = some j → cx.w.heap.size ≤ b ∧ b < w'.heap.size) ∧ ∀ d, ∃ pl' bx', AVRep (cxd cx w' own d pl' bx') d (forgetA d av) v
theorem New.of {cx : Cx} {av : AV} {v : Value} (h : ∀ d, AVRep cx d av v) (ho : owner av = false) : New cx cx.w av v :=
  ⟨Below.refl _ _, fun _ => h, fun h' => by rw [ho] at h'; cases h'⟩
theorem getD_put {a : Act} {d t : Nat} {v : Value} (hd : d < a.tmps.size) : (a.put (some d) v).tmps.getD t undef = if d = t then v else a.tmps.getD t undef := by
  simp only [Act.put, Array.getD_eq_getD_getElem?, Array.getElem?_setIfInBounds]
  by_cases h : d = t
  · subst h; simp [hd]
  · simp [h]
theorem Ch.grow {cx : Cx} {w' : World} (hb : Below cx.w.heap.size cx.w w') : Ch cx { cx with w := w' } (fun _ => False) (fun _ _ => False) (fun _ => False) :=
  ⟨rfl, rfl, fun b hb' _ => hb.block b hb', fun b _ hf => ⟨id, hf⟩, fun _ _ _ => rfl, fun _ _ => rfl⟩
theorem Ch.cxd {cx : Cx} {w' : World} (hb : Below cx.w.heap.size cx.w w') {own : Nat → Option Nat} (hown : ∀ b j, own b = some j → cx.w.heap.size ≤ b ∧ b < w'.heap.size) (d : Nat) (pl' bx') :
    Ch cx (Ev.cxd cx w' own d pl' bx') (fun _ => False) (fun d' _ => d' = d) (fun d' => d' = d) := by
  refine ⟨rfl, rfl, fun b hb' _ => hb.block b hb', fun b hb' hf => ⟨id, fun hf' => hf ?_⟩, fun d' j h => if_neg h, fun d' h => if_neg h⟩
  rcases hf' with h | ⟨p, hp⟩
  · exact .inl h
  · cases ho : own b with
    | none => simp only [Ev.cxd, ho] at hp; exact .inr ⟨p, hp⟩
    | some j => have := (hown b j ho).1; omega
theorem Rel.put (h : Rel E w0 X st a cx) {d : Nat} (hd : d < E.nt) {w' : World} {av : AV} {v : Value} (hn : New cx w' av v) :
    ∃ cx', Rel E w0 X (put st d av) (a.put (some d) v) cx' ∧ cx'.w = w' ∧ cx'.N = cx.N ∧ cx'.A = cx.A := by
  have hd' : d < a.tmps.size := h.nt ▸ hd
  have hsz : (a.put (some d) v).tmps.size = E.nt := by simp [Act.put, h.nt]
  have hslot : ∀ t, (a.put (some d) v).tmps.getD t undef = if d = t then v else a.tmps.getD t undef := fun t => getD_put hd'
  have hown0 : ∀ b p, cx.O b = some p → b < w'.heap.size ∧ (w0.heap.size ≤ b ∨ X b) := fun b p hp => ⟨Nat.lt_of_lt_of_le (h.own b p hp).1 hn.below.size, (h.own b p hp).2⟩
  unfold Ev.put
  cases hO : owner av || owner (get st d) with
  | false =>
    rw [Bool.or_eq_false_iff] at hO
    refine ⟨{ cx with w := w' }, ⟨h.P, h.defers, h.kept.below hn.below, hown0, h.non, h.glob, hsz, fun t => ?_⟩, rfl, rfl, rfl⟩
    rw [hslot]
    show AVRep _ t (get ((d, av) :: st) t) _
    rw [get_cons]
    by_cases e : d = t
    · rw [if_pos e, if_pos e]; exact hn.plain hO.1 t
    · rw [if_neg e, if_neg e]
      exact (h.slots t).change (Ch.grow hn.below) (by cases get st t <;> first | trivial | (intro; simp) | exact id | (intro c hc; cases c <;> first | trivial | exact id) | (intro p hp c hc; cases c <;> first | trivial | exact id))
        (fun j c _ _ => ⟨id, fun b hb => ⟨(h.own b _ hb).1, id, hb⟩⟩) (fun o cs _ => ⟨id, fun b hb => ⟨(h.own b _ hb).1, id, hb⟩⟩)
  | true =>
    obtain ⟨own, hown, pl', bx', hav⟩ : ∃ own : Nat → Option Nat, (∀ b j, own b = some j → cx.w.heap.size ≤ b ∧ b < w'.heap.size) ∧ ∃ pl' bx', AVRep (cxd cx w' own d pl' bx') d (forgetA d av) v := by
      cases ho : owner av with
      | true => obtain ⟨own, h1, h2⟩ := hn.owns ho; obtain ⟨pl', bx', h3⟩ := h2 d; exact ⟨own, h1, pl', bx', h3⟩
      | false =>
        refine ⟨fun _ => none, (fun b j hb => by cases hb), fun _ => none, none, ?_⟩
        have hc := noOwner_cells ho
        have h1 : AVRep { cx with w := w' } d (forgetA d av) v := (hn.plain ho d).forget d
        have hch : Ch { cx with w := w' } (cxd cx w' (fun _ => none) d (fun _ => none) none) (fun _ => False) (fun d' _ => d' = d) (fun d' => d' = d) :=
          ⟨rfl, rfl, fun _ _ _ => rfl, fun b _ hf => ⟨id, hf⟩, fun d' j hh => if_neg hh, fun d' hh => if_neg hh⟩
        refine h1.change hch (avoid_forget d av) (fun j c hj hoc => ?_) (fun o cs hb => ?_)
        · have : c ∈ cellsIn (forgetA d av) := List.mem_of_getElem? hj
          have hno : ∀ c ∈ cellsIn (forgetA d av), isOwn c = false := by
            intro c hc'
            cases av with
            | p a cs => obtain ⟨c0, h0, rfl⟩ := List.mem_map.1 hc'; rw [forgetC_own]; exact hc.1 c0 h0
            | tup ps =>
              obtain ⟨p, hp, hc'⟩ := List.mem_flatMap.1 hc'
              obtain ⟨p0, hp0, rfl⟩ := List.mem_map.1 hp
              obtain ⟨c0, h0, rfl⟩ := List.mem_map.1 hc'
              rw [forgetC_own]; exact hc.1 c0 (List.mem_flatMap.2 ⟨p0, hp0, h0⟩)
            | box o cs => exact absurd rfl (hc.2 o cs)
            | pat d' o => simp only [forgetA] at hc'; cases hb : Nat.beq d d' <;> simp [hb, cellsIn] at hc'
            | pel d' j' i o => simp only [forgetA] at hc'; cases hb : Nat.beq d d' <;> simp [hb, cellsIn] at hc'
            | _ => simp [forgetA, cellsIn] at hc'
          rw [hno c this] at hoc; cases hoc
        · exfalso
          cases av with
          | box o' cs' => exact hc.2 o' cs' rfl
          | pat d' o' => simp only [forgetA] at hb; cases hb' : Nat.beq d d' <;> simp [hb'] at hb
          | pel d' j' i o' => simp only [forgetA] at hb; cases hb' : Nat.beq d d' <;> simp [hb'] at hb
          | _ => simp [forgetA] at hb
    refine ⟨cxd cx w' own d pl' bx', ⟨h.P, h.defers, h.kept.below hn.below, fun b p hp => ?_, h.non, h.glob, hsz, fun t => ?_⟩, rfl, rfl, rfl⟩
    · cases ho : own b with
      | none => simp only [cxd, ho] at hp; exact hown0 b p hp
      | some j => exact ⟨(hown b j ho).2, .inl (Nat.le_trans h.kept.size (hown b j ho).1)⟩
    · rw [hslot]
      show AVRep _ t (get ((d, forgetA d av) :: forget d st) t) _
      rw [get_cons, get_forget]
      by_cases e : d = t
      · subst e; rw [if_pos rfl, if_pos rfl]; exact hav
      · rw [if_neg e, if_neg e]
        have hO' : ∀ b p, cx.O b = some p → (cxd cx w' own d pl' bx').O b = some p := fun b p hp => by
          cases ho : own b with
          | none => simp only [cxd, ho]; exact hp
          | some j => have := (hown b j ho).1; have := (h.own b p hp).1; omega
        exact ((h.slots t).forget d).change (Ch.cxd hn.below hown d pl' bx') (avoid_forget d _) (fun j c _ _ => ⟨fun ee => e ee.symm, fun b hb => ⟨(h.own b _ hb).1, id, hO' b _ hb⟩⟩) (fun o cs _ => ⟨fun ee => e ee.symm, fun b hb => ⟨(h.own b _ hb).1, id, hO' b _ hb⟩⟩)
theorem Rel.putO (h : Rel E w0 X st a cx) {d : Option Nat} (hd : ∀ x, d = some x → x < E.nt) {w' : World} {av : AV} {v : Value} (hn : New cx w' av v) :
    ∃ cx', Rel E w0 X (putO st d av) (a.put d v) cx' ∧ cx'.w = w' ∧ cx'.N = cx.N ∧ cx'.A = cx.A := by
  cases d with
  | some d => exact h.put (hd d rfl) hn
  | none =>
    refine ⟨{ cx with w := w' }, ⟨h.P, h.defers, h.kept.below hn.below, fun b p hp => ⟨Nat.lt_of_lt_of_le (h.own b p hp).1 hn.below.size, (h.own b p hp).2⟩, h.non, h.glob, h.nt, fun t => ?_⟩, rfl, rfl, rfl⟩
    exact (h.slots t).change (Ch.grow hn.below) (by cases get st t <;> first | trivial | (intro; simp) | exact id | (intro c hc; cases c <;> first | trivial | exact id) | (intro p hp c hc; cases c <;> first | trivial | exact id))
        (fun j c _ _ => ⟨id, fun b hb => ⟨(h.own b _ hb).1, id, hb⟩⟩) (fun o cs _ => ⟨id, fun b hb => ⟨(h.own b _ hb).1, id, hb⟩⟩)
end
end Go.Proofs.YtpanhndkcnojpaaDoor.Ev
/- The evaluator's quiet operations are what the model runs: pointers, loads, fields, arithmetic. No condition. -/
namespace Go.Proofs.YtpanhndkcnojpaaDoor.Ev
open Go Go.RowKit
set_option linter.unusedVariables false
set_option linter.unusedSimpArgs false
def Does (P : Program) (o : Oper) (a : Act) (w : World) (Post : Value → World → Prop) : Prop :=
  (∃ v w', (execOp a.eval o).run P w = .ok (.value v) w' ∧ Post v w') ∨
  (∃ f args, (execOp a.eval o).run P w = .ok (.enter f args) w ∧ Calls P f args w fun e w' => ∃ v, e = .returned v ∧ Post v w')
theorem Does.wp {P : Program} {o : Oper} {a : Act} {w : World} {Post : Value → World → Prop} {next : Act → World → Prop} {Q : Exit → Act → World → Prop} (h : Does P o a w Post) (hn : ∀ v w', Post v w' → next (a.put o.dst v) w') : o.wp P a w next Q := by
  unfold Oper.wp
  rcases h with ⟨v, w', hr, hp⟩ | ⟨f, args, hr, hc⟩
  · rw [hr]; exact hn v w' hp
  · rw [hr]
    refine hc.mono ?_
    rintro e w' ⟨v, rfl, hp⟩
    exact hn v w' hp
section
variable {E : Env} {w0 : World} {X : Nat → Prop} {st : St} {a : Act} {cx : Cx} {o : Oper} {av : AV}
abbrev Goal (E : Env) (o : Oper) (a : Act) (cx : Cx) (av : AV) : Prop := Does E.P o a cx.w fun v w' => New cx w' av v
theorem Goal.same {v : Value} (hr : (execOp a.eval o).run E.P cx.w = .ok (.value v) cx.w) (hv : ∀ d, AVRep cx d av v) (ho : owner av = false) : Goal E o a cx av := .inl ⟨v, cx.w, hr, .of hv ho⟩
theorem mv_run {av av' : AV} (h : (mv av).run = some av') : av = av' := by
  cases av <;> simp [mv, Br.run] at h <;> exact h
theorem Rel.q_move (h : Rel E w0 X st a cx) (x : Operand) (ho : o.op = .move x ∨ o.op = .assign x) (hav : (mv (Ev.opnd E (get st) x)).run = some av) : Goal E o a cx av := by
  rw [← mv_run hav]
  refine Goal.same (v := a.eval x) ?_ (fun d => h.opnd d x) (opnd_noOwner E _ h.glob x)
  rcases ho with e | e <;> simp only [execOp, e] <;> rfl
theorem Rel.q_pick (h : Rel E w0 X st a cx) (c x y : Operand) (ho : o.op = .pick c x y) {t : Bool} (hc : plainV (Ev.opnd E (get st) c) = some (.bool t)) (hav : (Br.br t (mv (Ev.opnd E (get st) x)) (mv (Ev.opnd E (get st) y))).run = some av) : Goal E o a cx av := by
  have hcv := h.plain hc
  have hrun : (execOp a.eval o).run E.P cx.w = .ok (.value (if t then a.eval x else a.eval y)) cx.w := by
    simp only [execOp, ho, hcv, asBool, Sem.run_bind, Sem.run_pure, Result.andThen_ok]
  cases t with
  | true =>
    simp only [Br.run, cond_true] at hav
    rw [← mv_run hav]
    exact Goal.same hrun (fun d => h.opnd d x) (opnd_noOwner E _ h.glob x)
  | false =>
    simp only [Br.run, cond_false] at hav
    rw [← mv_run hav]
    exact Goal.same hrun (fun d => h.opnd d y) (opnd_noOwner E _ h.glob y)
/-! ### New variables -/
theorem Below.one (w : World) (ob : Obj) : Below w.heap.size w (w.alloc ob) := (Below.refl _ _).alloc (Nat.le_refl _) ob
theorem newBlock_own {w : World} {ob : Obj} {b j q : Nat} (hj : (if b = w.heap.size then some q else none) = some j) : w.heap.size ≤ b ∧ b < (w.alloc ob).heap.size := by
  split at hj
  · rename_i e; subst e; simp
  · cases hj
theorem newBox {cs : List Cell} {vs : List Value} (hr : ∀ d, CellsRep cx d 0 cs vs) (hno : ∀ c ∈ cs, isOwn c = false) (t : TypeId) :
    New cx (cx.w.alloc (.cells vs.toArray t (0, 0))) (.box true cs) (.pointer (some ⟨cx.w.heap.size, 0, none⟩)) := by
  have hb := Below.one cx.w (.cells vs.toArray t (0, 0))
  refine ⟨hb, fun h => by simp [owner] at h, fun _ => ⟨fun b => if b = cx.w.heap.size then some 0 else none, fun b j hj => ?_, fun d => ⟨fun _ => none, some cx.w.heap.size, cx.w.heap.size, vs, t, rfl, ?_, ?_, ?_, ?_, fun e => nomatch e⟩⟩⟩
  · exact newBlock_own hj
  · simp [cxd]
  · simp [cxd]
  · exact heap_alloc_new cx.w _
  · have h1 : CellsRep cx d 0 (cs.map (forgetC d)) vs := (hr d).map _ (forgetC_or d)
    refine h1.change (Ch.cxd hb (own := fun b => if b = cx.w.heap.size then some 0 else none) (fun b j hj => newBlock_own hj) d _ _) (avoid_cells d cs) (fun j c hj ho => ?_)
    exfalso
    rw [List.getElem?_map] at hj
    obtain ⟨c0, h0, rfl⟩ := Option.map_eq_some_iff.1 hj
    rw [forgetC_own, hno c0 (List.mem_of_getElem? h0)] at ho; cases ho
theorem vcells_rep (cx : Cx) (d off : Nat) {vs : List Value} (h : vs.all Value.oneCell' = true) : CellsRep cx d off (vs.map .v) vs :=
  ⟨by simp, fun v hv => List.all_eq_true.1 h v hv, fun j c v h1 h2 => by
    rw [List.getElem?_map, h2] at h1
    obtain rfl := Option.some.inj h1; rfl⟩
theorem vcells_noOwn (vs : List Value) : ∀ c ∈ vs.map Cell.v, isOwn c = false := by
  intro c hc; obtain ⟨x, _, rfl⟩ := List.mem_map.1 hc; rfl
theorem zero_spec {E : Env} {e : TypeId} {cs : List Cell} (h : zeroCellsA E e = some cs) : ∃ i z, E.P.info? e = some i ∧ i.zero = some z ∧ z.cells.toList.all Value.oneCell' = true ∧ cs = z.cells.toList.map .v := by
  unfold zeroCellsA at h
  split at h
  · rename_i i hi
    split at h
    · rename_i z hz
      cases hc : z.cells.toList.all Value.oneCell' with
      | false => rw [hc] at h; cases h
      | true => rw [hc] at h; exact ⟨i, z, hi, hz, hc, (Option.some.inj h).symm⟩
    · cases h
  · cases h
theorem Rel.q_alloc (h : Rel E w0 X st a cx) (e : TypeId) (ho : o.op = .alloc e) {cs : List Cell} (hz : zeroCellsA E e = some cs) : Goal E o a cx (.box true cs) := by
  obtain ⟨i, z, hi, hzz, hall, rfl⟩ := zero_spec hz
  refine .inl ⟨_, _, ?_, newBox (fun d => vcells_rep cx d 0 hall) (vcells_noOwn _) e⟩
  simp [execOp, ho, Instr.alloc, zeroValue, typeInfo, program, hi, hzz, newVar, newRow, newObj, Sem.run]
theorem cellsOf_rep {v : Value} {cs : List Cell} (hc : cellsOf av = some cs) (hr : ∀ d, AVRep cx d av v) : ∃ vs : List Value, v.cells = vs.toArray ∧ ∀ d, CellsRep cx d 0 cs vs := by
  cases av with
  | p ag cs' =>
    obtain rfl := Option.some.inj hc
    cases ag with
    | true =>
      obtain ⟨vs, rfl, _⟩ := hr 0
      refine ⟨vs, rfl, fun d => ?_⟩
      obtain ⟨vs', e, h'⟩ := hr d
      have : vs' = vs := by simpa [eq_comm] using e
      exact this ▸ h'
    | false =>
      refine ⟨[v], ?_, hr⟩
      have h1 : v.oneCell' = true := (hr 0).2.1 v (by simp)
      cases v <;> simp [Value.oneCell'] at h1 <;> rfl
  | _ => cases hc
theorem opnd_cells_noOwn (E : Env) (g : Nat → AV) {p : Prop} (hg : p) (x : Operand) {cs : List Cell} (hc : cellsOf (Ev.opnd E g x) = some cs) : ∀ c ∈ cs, isOwn c = false := by
  have h1 := (noOwner_cells (opnd_noOwner E g hg x)).1
  cases hx : Ev.opnd E g x with
  | p ag cs' => rw [hx] at hc h1; obtain rfl := Option.some.inj hc; exact h1
  | _ => rw [hx] at hc; cases hc
theorem Rel.q_box (h : Rel E w0 X st a cx) (e : TypeId) (x : Operand) (ho : o.op = .box e x) {cs : List Cell} (hc : cellsOf (Ev.opnd E (get st) x) = some cs) : Goal E o a cx (.box true cs) := by
  obtain ⟨vs, hv, hr⟩ := cellsOf_rep hc (fun d => h.opnd d x)
  refine .inl ⟨_, _, ?_, newBox hr (opnd_cells_noOwn E _ h.glob x hc) e⟩
  simp [execOp, ho, Instr.box, newVar, newRow, newObj, Sem.run, hv]
/-- A variable that is only read once it is made. -/
theorem Rel.q_boxro (h : Rel E w0 X st a cx) (e : TypeId) (x : Operand) (ho : o.op = .box e x) {cs : List Cell} (hc : cellsOf (Ev.opnd E (get st) x) = some cs) (h0 : 0 < cs.length) : Goal E o a cx (.ro cs 0) := by
  obtain ⟨vs, hv, hr⟩ := cellsOf_rep hc (fun d => h.opnd d x)
  have hno := opnd_cells_noOwn E _ h.glob x hc
  have hb := Below.one cx.w (.cells vs.toArray e (0, 0))
  refine .inl ⟨_, _, (show (execOp a.eval o).run E.P cx.w = .ok (.value (.pointer (some ⟨cx.w.heap.size, 0, none⟩))) (cx.w.alloc (.cells vs.toArray e (0, 0))) from by simp [execOp, ho, Instr.box, newVar, newRow, newObj, Sem.run, hv]), hb, fun _ d => ?_, fun h => by simp [owner] at h⟩
  refine ⟨cx.w.heap.size, 0, vs, rfl, h0, ?_, ?_, fun j u hj => ?_, ?_⟩
  · rw [List.all_eq_true]; intro c hc'; rw [hno c hc']; rfl
  · rintro (hN | ⟨p, hp⟩)
    · exact Nat.lt_irrefl _ (Nat.lt_of_lt_of_le (h.non _ hN).1 h.kept.size)
    · exact Nat.lt_irrefl _ (h.own _ p hp).1
  · have e2 := heap_alloc_new cx.w (.cells vs.toArray e (0, 0))
    unfold World.cell?
    dsimp only
    rw [e2]
    simpa using hj
  · exact (hr d).change (Ch.grow hb) (fun c hc' => by cases c <;> first | trivial | exact id) (fun j c hj ho' => by rw [hno c (List.mem_of_getElem? hj)] at ho'; cases ho')
/-! ### Pointers -/
theorem Rel.q_nilCheck (h : Rel E w0 X st a cx) (x : Operand) (ho : o.op = .nilCheck x) (hp : (∃ d i, Ev.opnd E (get st) x = .pat d i) ∨ (∃ d j i n, Ev.opnd E (get st) x = .pel d j i n) ∨ (∃ cs i, Ev.opnd E (get st) x = .ro cs i)) (hav : Ev.opnd E (get st) x = av) : Goal E o a cx av := by
  subst hav
  have hptr : ∃ ad, a.eval x = .pointer (some ad) := by
    have h1 := h.opnd 0 x
    rcases hp with ⟨d, i, e⟩ | ⟨d, j, i, n, e⟩ | ⟨cs, i, e⟩ <;> rw [e] at h1
    · obtain ⟨b, _, e2⟩ := h1; exact ⟨_, e2⟩
    · obtain ⟨e', b, n', c', _, _, _, e2⟩ := h1; exact ⟨_, e2⟩
    · obtain ⟨b, off, vs, e2, _⟩ := h1; exact ⟨_, e2⟩
  obtain ⟨ad, had⟩ := hptr
  refine Goal.same (v := a.eval x) ?_ (fun d => h.opnd d x) (opnd_noOwner E _ h.glob x)
  simp [execOp, ho, had]
theorem field_spec {E : Env} {s : TypeId} {f : Nat} {fd : Field} (h : fieldP E s f = some fd) : ∃ fs, E.P.underlying s = some (.struct fs) ∧ fs[f]? = some fd ∧ sizeP E.P fd.type ≠ 0 := by
  unfold fieldP at h
  split at h
  · rename_i fs hfs
    split at h
    · rename_i fd' hf
      cases hz : Nat.beq (sizeP E.P fd'.type) 0 with
      | true => rw [hz] at h; cases h
      | false =>
        rw [hz] at h
        obtain rfl := Option.some.inj h
        exact ⟨fs, hfs, hf, fun e => by rw [e] at hz; cases hz⟩
    · cases h
  · cases h
theorem run_sizeOf {P : Program} {t : TypeId} (h : sizeP P t ≠ 0) (w : World) : (sizeOf t).run P w = .ok (sizeP P t) w := by
  unfold sizeP at h ⊢
  cases hi : P.info? t with
  | none => rw [hi] at h; simp at h
  | some i => simp [sizeOf, typeInfo, program, hi, Sem.run]
theorem addr_add (b o n : Nat) : (⟨b, o, none⟩ : Addr).add n = ⟨b, o + n, none⟩ := by
  unfold Addr.add; split
  · rename_i h; subst h; rfl
  · rfl
theorem run_fieldAt {P : Program} {s : TypeId} {fs : Array Field} {f : Nat} {fd : Field} (h1 : P.underlying s = some (.struct fs)) (h2 : fs[f]? = some fd) (h3 : sizeP P fd.type ≠ 0) (b n : Nat) (w : World) :
    (Instr.fieldAt s (.pointer (some ⟨b, n, none⟩)) f).run P w = .ok (.pointer (some ⟨b, n + fd.offset, none⟩)) w := by
  simp [Instr.fieldAt, run_underlying h1, h2, Instr.sureAddr, fieldPlace, run_sizeOf h3, h3, addr_add]
theorem Rel.q_fieldAddr (h : Rel E w0 X st a cx) (s : TypeId) (x : Operand) (f : Nat) (ho : o.op = .fieldAddr s x f) {fd : Field} (hf : fieldP E s f = some fd)
    (hp : (∃ d i, Ev.opnd E (get st) x = .pat d i ∧ av = .pat d (i + fd.offset)) ∨ (∃ d j i n, Ev.opnd E (get st) x = .pel d j i n ∧ av = .pel d j i (n + fd.offset)) ∨ (∃ cs i, Ev.opnd E (get st) x = .ro cs i ∧ av = .ro cs (i + fd.offset))) : Goal E o a cx av := by
  obtain ⟨fs, h1, h2, h3⟩ := field_spec hf
  have hrun : ∀ b n, a.eval x = .pointer (some ⟨b, n, none⟩) → (execOp a.eval o).run E.P cx.w = .ok (.value (.pointer (some ⟨b, n + fd.offset, none⟩))) cx.w := by
    intro b n e
    simp only [execOp, ho, e, Sem.run_bind, run_fieldAt h1 h2 h3, Result.andThen_ok, Sem.run_pure]
  rcases hp with ⟨d, i, e, rfl⟩ | ⟨d, j, i, n, e, rfl⟩ | ⟨cs, i, e, rfl⟩
  · obtain ⟨b, hb, e2⟩ := e ▸ h.opnd 0 x
    exact Goal.same (hrun b i e2) (fun _ => ⟨b, hb, rfl⟩) rfl
  · obtain ⟨e', b, n', c', hb, hi1, hi2, e2⟩ := e ▸ h.opnd 0 x
    exact Goal.same (hrun _ _ e2) (fun _ => ⟨e', b, n', c', hb, hi1, hi2, by simp [Nat.add_assoc]⟩) rfl
  · obtain ⟨b, off, vs, e2, h0, hw, hF, hm, hc⟩ := e ▸ h.opnd 0 x
    exact Goal.same (hrun _ _ e2) (fun d => ⟨b, off, vs, by simp [Nat.add_assoc], h0, hw, hF, hm, hc.moved fun c hc' => by have := List.all_eq_true.1 hw c hc'; simpa using this⟩) rfl
/-! ### Loads -/
theorem isAgg_run {P : Program} {t : TypeId} (h : knownP P t = true) (w : World) : (isAgg t).run P w = .ok (isAggP P t) w := by
  obtain ⟨d, hd⟩ := Option.isSome_iff_exists.1 h
  unfold isAggP
  simp only [isAgg, Sem.run_bind, run_underlying hd, Result.andThen_ok, hd]
  cases d <;> rfl
def cut (vs : List Value) (o n : Nat) : List Value := (vs.drop o).take n
theorem CellsRep.cut {d off d' off' : Nat} {cs : List Cell} {vs : List Value} (h : CellsRep cx d off cs vs) (hno : ∀ c ∈ cs, isOwn c = false) (o n : Nat) : CellsRep cx d' off' (takeAt cs o n) (cut vs o n) := by
  refine ⟨by simp [takeAt, Ev.cut, h.1], fun v hv => h.2.1 v (List.mem_of_mem_drop (List.mem_of_mem_take hv)), fun j c v h1 h2 => ?_⟩
  simp only [takeAt, Ev.cut, List.getElem?_take, List.getElem?_drop] at h1 h2
  split at h1
  · rename_i hj; rw [if_pos hj] at h2
    exact (h.2.2 (o + j) c v h1 h2).moved (hno c (List.mem_of_getElem? h1))
  · cases h1
theorem run_loadVar' {P : Program} {t : TypeId} {w : World} {b o : Nat} {vs : List Value} (hk : knownP P t = true) (hn : sizeP P t ≠ 0) (hl : vs.length = sizeP P t) (h1 : isAggP P t = false → sizeP P t = 1)
    (hm : ∀ j u, vs[j]? = some u → w.cell? ⟨b, o + j, none⟩ = some u) :
    ∃ v, (loadVar t ⟨b, o, none⟩).run P w = .ok v w ∧ ((isAggP P t = true ∧ v = .agg vs.toArray) ∨ (isAggP P t = false ∧ vs = [v])) := by
  cases ha : isAggP P t with
  | true =>
    refine ⟨.agg vs.toArray, ?_, .inl ⟨rfl, rfl⟩⟩
    have := run_loadCells_list (P := P) w ⟨b, o, none⟩ vs (fun j u hj => by rw [addr_add]; exact hm j u hj)
    simp only [loadVar, Sem.run_bind, isAgg_run hk, ha, Result.andThen_ok, if_true, run_sizeOf hn, ← hl, this, Sem.run_pure]
  | false =>
    have hl1 : vs.length = 1 := hl.trans (h1 ha)
    obtain ⟨v, rfl⟩ := List.length_eq_one_iff.1 hl1
    refine ⟨v, ?_, .inr ⟨rfl, rfl⟩⟩
    have h0 := hm 0 v rfl
    simp only [loadVar, Sem.run_bind, isAgg_run hk, ha, Result.andThen_ok]
    have h0' : w.cell? ⟨b, o, none⟩ = some v := h0
    simp [h0']
theorem fin_spec {cs : List Cell} {n : Nat} {ag kn : Bool} {av : AV} (h : (bif Nat.beq cs.length n && ((ag || Nat.beq n 1) && (kn && Nat.blt 0 n)) then Br.ret (AV.p ag cs) else Br.none).run = some av) :
    av = .p ag cs ∧ cs.length = n ∧ (ag = false → n = 1) ∧ kn = true ∧ n ≠ 0 := by
  cases hc : (Nat.beq cs.length n && ((ag || Nat.beq n 1) && (kn && Nat.blt 0 n))) with
  | false => rw [hc] at h; cases h
  | true =>
    rw [hc] at h
    simp only [Bool.and_eq_true, Bool.or_eq_true] at hc
    obtain ⟨h1, h2, h3, h4⟩ := hc
    refine ⟨(Option.some.inj h).symm, Nat.eq_of_beq_eq_true h1, fun e => ?_, h3, ?_⟩
    · rcases h2 with h2 | h2
      · rw [e] at h2; cases h2
      · exact Nat.eq_of_beq_eq_true h2
    · intro e; subst e; cases h4
theorem p_rep {ag : Bool} {cs : List Cell} {vs : List Value} {v : Value} (hv : (ag = true ∧ v = .agg vs.toArray) ∨ (ag = false ∧ vs = [v])) (hr : ∀ d, CellsRep cx d 0 cs vs) : ∀ d, AVRep cx d (.p ag cs) v := by
  intro d
  rcases hv with ⟨rfl, rfl⟩ | ⟨rfl, rfl⟩
  · exact ⟨vs, rfl, hr d⟩
  · exact hr d
theorem p_noOwner {ag : Bool} {cs : List Cell} (h : ∀ c ∈ cs, isOwn c = false) : owner (.p ag cs) = false := by
  simp only [owner, List.any_eq_false]; intro c hc; simp [h c hc]
theorem takeAt_noOwn {cs : List Cell} (h : ∀ c ∈ cs, isOwn c = false) (o n : Nat) : ∀ c ∈ takeAt cs o n, isOwn c = false := fun c hc => h c (List.mem_of_mem_drop (List.mem_of_mem_take hc))
theorem RepD.rows {P : Program} {w : World} {F : Nat → Prop} {e : TypeId} {d d' : D} {v : Value} (h : RepD P w F (.sl e) d v) (hr : d'.rows = d.rows) : RepD P w F (.sl e) d' v := by
  cases h with
  | fn _ _ he hk => exact .fn e d' he hk
  | clo _ _ b he hk hF hc => exact .clo e d' b he hk hF hc
  | cap _ _ vs he hk hc => exact .cap e d' vs he hk (by rw [hr]; exact hc)
  | pnil _ _ he hk h => exact .pnil e d' he hk (hr.trans h)
  | ptr _ _ b vs he hk hn h0 hF hc hrr => exact .ptr e d' b vs he hk (by rw [hr]; exact hn) h0 hF hc (by rw [hr]; exact hrr)
  | nil _ _ a c h0 hk => exact .nil e d' a c (hr.trans h0) hk
  | sl _ _ b o c n vs hn h0 hm hF hc hrr hcp => exact .sl e d' b o c n vs (by rw [hr]; exact hn) h0 hm hF hc (by rw [hr]; exact hrr) hcp
theorem cellOf_rep {k : K} {d : D} {u : Value} (h : RepD cx.P cx.w (Forb cx) k d u) (t j : Nat) : CellRep cx t j (cellOf k d) u := by
  cases k with
  | int k => cases h; rfl
  | bool => cases h; rfl
  | str => cases h; rfl
  | sl e => exact h.rows rfl
theorem cellOf_noOwn (k : K) (d : D) : isOwn (cellOf k d) = false := by cases k <;> rfl
theorem rowCells_get : ∀ (ks : List K) (r : List D) (i j : Nat) (c : Cell), (rowCells ks r i)[j]? = some c → ∃ k, ks[j]? = some k ∧ c = cellOf k (r.getD (i + j) .j)
  | [], r, i, j, c, h => by simp [rowCells] at h
  | k :: ks, r, i, 0, c, h => ⟨k, rfl, by simpa [rowCells, eq_comm] using h⟩
  | k :: ks, r, i, j + 1, c, h => by
    obtain ⟨k', h1, h2⟩ := rowCells_get ks r (i + 1) j c (by simpa [rowCells] using h)
    exact ⟨k', by simpa using h1, by rw [h2, show i + 1 + j = i + (j + 1) by omega]⟩
theorem rowCells_length : ∀ (ks : List K) (r : List D) (i : Nat), (rowCells ks r i).length = ks.length
  | [], _, _ => rfl
  | k :: ks, r, i => by simp [rowCells, rowCells_length ks]
theorem rowCells_noOwn (ks : List K) (r : List D) (i : Nat) : ∀ c ∈ rowCells ks r i, isOwn c = false := by
  intro c hc
  obtain ⟨j, hj⟩ := List.mem_iff_getElem?.1 hc
  obtain ⟨k, _, rfl⟩ := rowCells_get ks r i j c hj
  exact cellOf_noOwn _ _
theorem rowCells_rep {ks : List K} {r : List D} {vs : List Value} (hl : vs.length = ks.length) (h : ∀ j k u, ks[j]? = some k → vs[j]? = some u → RepD cx.P cx.w (Forb cx) k (r.getD j .j) u) (d : Nat) : CellsRep cx d 0 (rowCells ks r 0) vs := by
  refine ⟨by rw [rowCells_length, hl], fun v hv => ?_, fun j c v h1 h2 => ?_⟩
  · obtain ⟨j, hj⟩ := List.mem_iff_getElem?.1 hv
    have hlt : j < ks.length := by have := (List.getElem?_eq_some_iff.1 hj).1; omega
    exact (h j _ v (List.getElem?_eq_getElem hlt) hj).one
  · obtain ⟨k, hk, rfl⟩ := rowCells_get ks r 0 j c h1
    rw [Nat.zero_add]
    exact cellOf_rep (h j k v hk h2) d _
/-- What lies in a row of the call's own. -/
theorem own_row {P : Program} {w : World} {F : Nat → Prop} {e : TypeId} {xs : List (List D)} {b n c : Nat} (h : Owns P w F e xs (.slice (some ⟨b, 0, none⟩) n c)) (i : Nat) (hi : i < n) :
    n = xs.length ∧ ∃ vs : List Value, vs.length = (kinds P e).length ∧ (∀ j u, vs[j]? = some u → w.cell? ⟨b, i * (kinds P e).length + j, none⟩ = some u) ∧ ∀ j k u, (kinds P e)[j]? = some k → vs[j]? = some u → RepD P w F k ((xs.getD i []).getD j .j) u := by
  obtain ⟨_, flat, hf, hr⟩ := h
  rcases hf.2 with ⟨h0, _⟩ | ⟨g, cap, cur, he, hg, hh, hnc, hcm, hsz, htake⟩
  · cases h0
  · cases he
    refine ⟨rfl, (flat.drop (i * (kinds P e).length)).take (kinds P e).length, ?_, fun j u hj => ?_, fun j k u hk hu => ?_⟩
    · have h1 : i * (kinds P e).length + (kinds P e).length ≤ xs.length * (kinds P e).length := by
        rw [← Nat.succ_mul]; exact Nat.mul_le_mul_right _ hi
      rw [List.length_take, List.length_drop, hf.1]; omega
    · have hjl : j < (kinds P e).length := by
        have := (List.getElem?_eq_some_iff.1 hj).1
        rw [List.length_take] at this; omega
      rw [List.getElem?_take, if_pos hjl, List.getElem?_drop] at hj
      rw [cell_of_row w b _ cur e (0, 0) hh]
      rw [← htake, List.getElem?_take] at hj
      split at hj
      · simpa using hj
      · cases hj
    · have hjl : j < (kinds P e).length := (List.getElem?_eq_some_iff.1 hk).1
      obtain ⟨u', h1, h2⟩ := hr i j k hi hk
      rw [List.getElem?_take, if_pos hjl, List.getElem?_drop] at hu
      rw [h1] at hu
      obtain rfl := Option.some.inj hu
      exact h2
/-- What a place tells of the slice that lies there. -/
theorem Rel.place (h : Rel E w0 X st a cx) {d j w : Nat} {e : TypeId} {xs : List (List D)} (hc : cellAt (get st d) j = .sl (w + 1) e xs) :
    ∃ v, cx.pl d j = some (e, v) ∧ Owns cx.P cx.w (Forb cx) e xs v ∧ (∀ b, v.ownBlock = some b → cx.O b = some (d, j + 1)) ∧ (w ≠ 0 → v = cx.A d) := by
  have hs := h.slots d
  have key : ∀ {cs : List Cell} {vs : List Value}, CellsRep cx d 0 cs vs → cs.getD j .u = .sl (w + 1) e xs → ∃ v, cx.pl d j = some (e, v) ∧ Owns cx.P cx.w (Forb cx) e xs v ∧ (∀ b, v.ownBlock = some b → cx.O b = some (d, j + 1)) ∧ (w ≠ 0 → v = cx.A d) := by
    intro cs vs hr hcj
    have hj : cs[j]? = some (.sl (w + 1) e xs) := by
      rw [List.getD_eq_getElem?_getD] at hcj
      cases hq : cs[j]? with
      | none => rw [hq] at hcj; cases hcj
      | some c => rw [hq] at hcj; exact congrArg some hcj
    have hlt : j < vs.length := hr.1 ▸ (List.getElem?_eq_some_iff.1 hj).1
    have := hr.2.2 j _ _ hj (List.getElem?_eq_getElem hlt)
    rw [Nat.zero_add] at this
    exact ⟨_, this.2.1, this.1, this.2.2.1, this.2.2.2⟩
  have parts : ∀ {ps : List (Bool × List Cell)} {off : Nat} {vs : List Value} {q : Nat}, PartsRep cx d off ps vs → (ps.flatMap (·.2))[q]? = some (.sl (w + 1) e xs) → ∃ v, cx.pl d (off + q) = some (e, v) ∧ Owns cx.P cx.w (Forb cx) e xs v ∧ (∀ b, v.ownBlock = some b → cx.O b = some (d, off + q + 1)) ∧ (w ≠ 0 → v = cx.A d) := by
    intro ps
    induction ps with
    | nil => intro off vs q _ hq; simp at hq
    | cons p ps ih =>
      intro off vs q hp hq
      obtain ⟨ag, cs⟩ := p
      obtain ⟨ws, hws, v', vs', rfl, hr⟩ : ∃ ws, CellsRep cx d off cs ws ∧ ∃ v' vs', vs = v' :: vs' ∧ PartsRep cx d (off + cs.length) ps vs' := by
        cases vs with
        | nil => cases ag <;> simp [PartsRep] at hp
        | cons v' vs' => cases ag with
          | true => obtain ⟨⟨ws, rfl, hc⟩, hr⟩ := hp; exact ⟨ws, hc, _, vs', rfl, hr⟩
          | false => obtain ⟨hc, hr⟩ := hp; exact ⟨[v'], hc, v', vs', rfl, hr⟩
      rw [List.flatMap_cons] at hq
      by_cases hlt : q < cs.length
      · rw [List.getElem?_append_left hlt] at hq
        have hlt' : q < ws.length := hws.1 ▸ hlt
        have := hws.2.2 q _ _ hq (List.getElem?_eq_getElem hlt')
        exact ⟨_, this.2.1, this.1, this.2.2.1, this.2.2.2⟩
      · rw [List.getElem?_append_right (Nat.le_of_not_lt hlt)] at hq
        have := ih hr hq
        have hq' : off + cs.length + (q - cs.length) = off + q := by have := Nat.le_of_not_lt hlt; omega
        rw [show (ag, cs).snd.length = cs.length from rfl, hq'] at this
        exact this
  cases hg : get st d with
  | p ag cs =>
    rw [hg] at hs hc
    cases ag with
    | true => obtain ⟨vs, _, hr⟩ := hs; exact key hr hc
    | false => exact key (show CellsRep cx d 0 cs [_] from hs) hc
  | tup ps =>
    rw [hg] at hs hc
    obtain ⟨vs, _, hr⟩ := hs
    have hj : (ps.flatMap (·.2))[j]? = some (.sl (w + 1) e xs) := by
      have hc' : (ps.flatMap (·.2)).getD j .u = .sl (w + 1) e xs := hc
      rw [List.getD_eq_getElem?_getD] at hc'
      cases hq : (ps.flatMap (·.2))[j]? with
      | none => rw [hq] at hc'; cases hc'
      | some c => rw [hq] at hc'; exact congrArg some hc'
    have := parts hr hj
    simpa using this
  | box o cs => rw [hg] at hs hc; obtain ⟨b, vs, t, _, _, _, _, hr, _⟩ := hs; exact key hr hc
  | _ => rw [hg] at hc; cases hc
theorem Rel.q_load (h : Rel E w0 X st a cx) (t : TypeId) (x : Operand) (ho : o.op = .load t x) (hav : (loadV E (get st) t (Ev.opnd E (get st) x)).run = some av) : Goal E o a cx av := by
  have fin : ∀ {cs : List Cell} {vs : List Value} {b q : Nat}, (∀ d, CellsRep cx d 0 cs vs) → (∀ c ∈ cs, isOwn c = false) → a.eval x = .pointer (some ⟨b, q, none⟩) → (∀ j u, vs[j]? = some u → cx.w.cell? ⟨b, q + j, none⟩ = some u) →
      (bif Nat.beq cs.length (sizeP E.P t) && ((isAggP E.P t || Nat.beq (sizeP E.P t) 1) && (knownP E.P t && Nat.blt 0 (sizeP E.P t))) then Br.ret (AV.p (isAggP E.P t) cs) else Br.none).run = some av → Goal E o a cx av := by
    intro cs vs b q hr hno hx hm hf
    obtain ⟨rfl, h1, h2, h3, h4⟩ := fin_spec hf
    obtain ⟨v, hv, hv'⟩ := run_loadVar' (w := cx.w) (vs := vs) h3 h4 ((hr 0).1 ▸ h1) h2 hm
    refine Goal.same (v := v) ?_ (p_rep hv' hr) (p_noOwner hno)
    simp only [execOp, ho, Instr.loadAt, hx, Instr.sureAddr, Sem.run_bind, Sem.run_pure, Result.andThen_ok, hv]
  unfold loadV at hav
  have hx := h.opnd 0 x
  cases hq : Ev.opnd E (get st) x with
  | pat d q =>
    rw [hq] at hav hx
    obtain ⟨b, hb, hx⟩ := hx
    dsimp only at hav
    have hs := h.slots d
    cases hg : get st d with
    | box ow cs =>
      rw [hg] at hav hs
      obtain ⟨b', vs, t', _, h1, h2, h3, hr, _⟩ := hs
      obtain rfl := Option.some.inj (hb.symm.trans h1)
      refine fin (vs := cut vs q (sizeP E.P t)) (fun d' => (hr.refs (d' := d') (off' := 0)).cut (refsOf_noOwn d cs 0) q _) (takeAt_noOwn (refsOf_noOwn d cs 0) q _) hx (fun j u hj => ?_) hav
      rw [cell_of_row cx.w b _ vs.toArray t' (0, 0) h3]
      simp only [cut, List.getElem?_take, List.getElem?_drop] at hj
      split at hj
      · simpa using hj
      · cases hj
    | _ => rw [hg] at hav; cases hav
  | pel d j i q =>
    rw [hq] at hav hx
    obtain ⟨e', b, n, c, hpl, hi0, hin, hx⟩ := hx
    dsimp only at hav
    cases hc : cellAt (get st d) j with
    | sl w e xs =>
      cases w with
      | zero => rw [hc] at hav; cases hav
      | succ w =>
        rw [hc] at hav
        obtain ⟨v, h1, h2, _, _⟩ := h.place hc
        obtain ⟨rfl, rfl⟩ := Prod.mk.inj (Option.some.inj (hpl.symm.trans h1))
        obtain ⟨hn, vs, hl, hm, hr⟩ := own_row h2 i.toNat (by omega)
        have hP := h.P
        rw [hP] at hl hm hr hx
        refine fin (vs := cut vs q (sizeP E.P t)) (fun d' => (rowCells_rep hl (by rw [hP]; exact hr) d').cut (rowCells_noOwn _ _ _) q _) (takeAt_noOwn (rowCells_noOwn _ _ _) q _) hx (fun j' u hj => ?_) hav
        simp only [cut, List.getElem?_take, List.getElem?_drop] at hj
        split at hj
        · rw [Nat.add_assoc]; exact hm _ u hj
        · cases hj
    | _ => rw [hc] at hav; cases hav
  | ro cs q =>
    rw [hq] at hav hx
    obtain ⟨b, off, vs, hx, h0, hw, hF, hm, hr⟩ := hx
    dsimp only at hav
    have hno : ∀ c ∈ cs, isOwn c = false := fun c hc => by have := List.all_eq_true.1 hw c hc; simpa using this
    refine fin (vs := cut vs q (sizeP E.P t)) (fun d' => (hr.moved (d' := d') (off' := 0) hno).cut hno q _) (takeAt_noOwn hno q _) hx (fun j' u hj => ?_) hav
    simp only [cut, List.getElem?_take, List.getElem?_drop] at hj
    split at hj
    · rw [Nat.add_assoc]; exact hm _ u hj
    · cases hj
  | _ => rw [hq] at hav; cases hav
end
end Go.Proofs.YtpanhndkcnojpaaDoor.Ev
/- The evaluator's quiet operations are what the model runs: fields, indices, strings, arithmetic. No condition. -/
namespace Go.Proofs.YtpanhndkcnojpaaDoor.Ev
open Go Go.RowKit
set_option linter.unusedVariables false
set_option linter.unusedSimpArgs false
theorem qrun_run {α : Type} {P : Program} {s : Sem α} {x : α} (h : qrun P s = some x) (w : World) : s.run P w = .ok x w := by
  induction s with
  | pure a => obtain rfl := Option.some.inj h; rfl
  | program k ih => exact ih P h
  | _ => cases h
section
variable {E : Env} {w0 : World} {X : Nat → Prop} {st : St} {a : Act} {cx : Cx} {o : Oper} {av : AV}
theorem one_rep {v : Value} (h : v.oneCell' = true) : ∀ d, AVRep cx d (.p false [.v v]) v := fun d =>
  show CellsRep cx d 0 [.v v] [v] from ⟨rfl, by simpa using h, fun j c v' h1 h2 => by
    cases j with
    | zero => obtain rfl := Option.some.inj h1; obtain rfl := Option.some.inj h2; rfl
    | succ j => simp at h1⟩
theorem Goal.plain {v : Value} (hr : (execOp a.eval o).run E.P cx.w = .ok (.value v) cx.w) (hv : v.oneCell' = true) : Goal E o a cx (.p false [.v v]) := Goal.same hr (one_rep hv) rfl
theorem Rel.q_plain (h : Rel E w0 X st a cx) (hs : ∀ cs b, o.op ≠ .select cs b) (hav : (evPlain E (get st) o).run = some av) : Goal E o a cx av := by
  unfold evPlain at hav
  cases hp : o.op.operands.toList.all (isPlain E (get st)) with
  | false => rw [hp] at hav; cases hav
  | true =>
    rw [hp, cond_true] at hav
    have he : execOp a.eval o = execOp (rho E (get st)) o := execOp_congr o hs fun x hx => by
      have h1 := List.all_eq_true.1 hp x (by simpa using hx)
      obtain ⟨v, hv⟩ := Option.isSome_iff_exists.1 h1
      rw [h.plain hv]; unfold rho; rw [hv]; rfl
    cases hq : qrun E.P (execOp (rho E (get st)) o) with
    | none => rw [hq] at hav; cases hav
    | some nx =>
      cases nx with
      | value v =>
        rw [hq] at hav
        dsimp only at hav
        cases h1 : v.oneCell' with
        | false => rw [h1] at hav; cases hav
        | true =>
          rw [h1] at hav
          obtain rfl := Option.some.inj hav
          exact Goal.plain (he ▸ qrun_run hq cx.w) h1
      | _ => rw [hq] at hav; cases hav
theorem br_run {α : Type} {b : Bool} {x : Br α} {y : α} (h : (Br.br b x .none).run = some y) : b = true ∧ x.run = some y := by
  cases b with
  | true => exact ⟨rfl, h⟩
  | false => cases h
theorem br_run' {α : Type} {b : Bool} {x : Br α} {y : α} (h : (Br.br b .none x).run = some y) : b = false ∧ x.run = some y := by
  cases b with
  | false => exact ⟨rfl, h⟩
  | true => cases h
theorem Rel.q_field (h : Rel E w0 X st a cx) (s : TypeId) (x : Operand) (f : Nat) (ho : o.op = .field s x f) {fd : Field} (hf : fieldP E s f = some fd) {cs : List Cell} (hx : Ev.opnd E (get st) x = .p true cs)
    (hav : (bif Nat.beq (takeAt cs fd.offset (sizeP E.P fd.type)).length (sizeP E.P fd.type) && ((isAggP E.P fd.type || Nat.beq (sizeP E.P fd.type) 1) && (knownP E.P fd.type && Nat.blt 0 (sizeP E.P fd.type))) then Br.ret (AV.p (isAggP E.P fd.type) (takeAt cs fd.offset (sizeP E.P fd.type))) else Br.none).run = some av) : Goal E o a cx av := by
  obtain ⟨fs, h1, h2, h3⟩ := field_spec hf
  obtain ⟨rfl, k1, k2, k3, k4⟩ := fin_spec hav
  have hno : ∀ c ∈ cs, isOwn c = false := opnd_cells_noOwn E _ h.glob x (by rw [hx]; rfl)
  obtain ⟨vs, hv, hr⟩ := (hx ▸ h.opnd 0 x : AVRep cx 0 (.p true cs) (a.eval x))
  have hrc : ∀ d, CellsRep cx d 0 (takeAt cs fd.offset (sizeP E.P fd.type)) (cut vs fd.offset (sizeP E.P fd.type)) := fun d => hr.cut hno _ _
  have hl : (cut vs fd.offset (sizeP E.P fd.type)).length = sizeP E.P fd.type := (hrc 0).1 ▸ k1
  have hext : vs.toArray.extract fd.offset (fd.offset + sizeP E.P fd.type) = (cut vs fd.offset (sizeP E.P fd.type)).toArray := by
    apply Array.ext'; simp [cut, List.extract_eq_take_drop]
  cases hag : isAggP E.P fd.type with
  | true =>
    refine Goal.same (v := .agg (cut vs fd.offset (sizeP E.P fd.type)).toArray) ?_ (p_rep (.inl ⟨rfl, rfl⟩) hrc) (p_noOwner (takeAt_noOwn hno _ _))
    simp only [execOp, ho, hv, Instr.field, Sem.run_bind, run_underlying h1, Result.andThen_ok, h2, asAgg, Sem.run_pure, part, isAgg_run k3, hag, if_true, run_sizeOf k4, hext]
  | false =>
    obtain ⟨u, hu⟩ := List.length_eq_one_iff.1 (hl.trans (k2 hag))
    have hu0 : vs[fd.offset]? = some u := by
      have : (cut vs fd.offset (sizeP E.P fd.type))[0]? = some u := by rw [hu]; rfl
      simp only [cut, List.getElem?_take, List.getElem?_drop] at this
      split at this
      · simpa using this
      · cases this
    refine Goal.same (v := u) ?_ (p_rep (.inr ⟨rfl, hu⟩) hrc) (p_noOwner (takeAt_noOwn hno _ _))
    simp only [execOp, ho, hv, Instr.field, Sem.run_bind, run_underlying h1, Result.andThen_ok, h2, asAgg, Sem.run_pure, part, isAgg_run k3, hag]
    simp [hu0]
theorem Rel.q_index (h : Rel E w0 X st a cx) (t e : TypeId) (x ix : Operand) (ho : o.op = .indexAddr t x ix) {c : Cell} {kd : IntKind} {i : Int} (hx : Ev.opnd E (get st) x = .p false [c]) (hi : plainV (Ev.opnd E (get st) ix) = some (.int kd i)) (ht : E.P.underlying t = some (.slice e))
    (hsz : (kinds E.P e).length = sizeP E.P e) (h0 : 0 < sizeP E.P e) (xs : List (List D)) (hb : (decide (0 ≤ i) && decide (i < (xs.length : Int))) = true)
    (hc : (∃ d j w, c = .ref d j ∧ cellAt (get st d) j = .sl (w + 1) e xs ∧ av = .pel d j i 0) ∨ (c = .sl 0 e xs ∧ av = .ro (rowCells (kinds E.P e) (xs.getD i.toNat []) 0) 0)) : Goal E o a cx av := by
  have hiv := h.plain hi
  simp only [Bool.and_eq_true, decide_eq_true_eq] at hb
  obtain ⟨hi0, hil⟩ := hb
  have hr : CellsRep cx 0 0 [c] [a.eval x] := (hx ▸ h.opnd 0 x : AVRep cx 0 (.p false [c]) (a.eval x))
  have hcr := hr.2.2 0 c (a.eval x) rfl rfl
  have hrun : ∀ (b off n cp : Nat), a.eval x = .slice (some ⟨b, off, none⟩) n cp → i < (n : Int) → (execOp a.eval o).run E.P cx.w = .ok (.value (.pointer (some ⟨b, off + i.toNat * sizeP E.P e, none⟩))) cx.w := by
    intro b off n cp hv hn
    simp only [execOp, ho, hv, hiv, Instr.indexAt, asIntOf, Sem.run_bind, Sem.run_pure, Result.andThen_ok, run_underlying ht, Sem.run_ite, if_pos (show 0 ≤ i ∧ i < (n : Int) from ⟨hi0, hn⟩), run_sizeOf (Nat.pos_iff_ne_zero.1 h0), addr_add]
  rcases hc with ⟨d, j, w, rfl, hca, rfl⟩ | ⟨rfl, rfl⟩
  · obtain ⟨e'', hpl⟩ := hcr
    obtain ⟨v, h1, h2, _, _⟩ := h.place hca
    obtain ⟨rfl, hv⟩ := Prod.mk.inj (Option.some.inj (hpl.symm.trans h1))
    obtain ⟨_, flat, hf, _⟩ := h2
    rcases hf.2 with ⟨_, hz⟩ | ⟨g, cap, cur, he, _⟩
    · omega
    · rw [he] at hv
      refine Goal.same (hrun g 0 xs.length cap hv hil) (fun _ => ⟨_, g, xs.length, cap, by rw [hpl, hv], hi0, hil, ?_⟩) rfl
      rw [h.P, hsz]; simp
  · have hcr' : RepD cx.P cx.w (Forb cx) (.sl e) (.l xs) (a.eval x) := hcr
    generalize hv : a.eval x = v at hcr'
    cases hcr' with
    | fn _ _ he hk => rw [h.P, hsz] at hk; omega
    | clo _ _ b he hk hF' hcl => rw [h.P, hsz] at hk; omega
    | cap _ _ _ he hk => rw [h.P, hsz] at hk; omega
    | pnil _ _ he hk => rw [h.P, hsz] at hk; omega
    | ptr _ _ _ _ he hk => rw [h.P, hsz] at hk; omega
    | nil _ _ a' c' h0 => have : xs = [] := h0; subst this; simp at hil; omega
    | sl _ _ b off cp n vs hn hn0 hm hF hcells hrr =>
      have hn' : n = xs.length := hn
      refine Goal.same (hrun b off n cp hv (by omega)) (fun d => ?_) rfl
      rw [h.P] at hcells hrr hm
      have hin : i.toNat < n := by omega
      refine ⟨b, off + i.toNat * (kinds E.P e).length, (List.range (kinds E.P e).length).map (vs i.toNat), by rw [hsz]; rfl, by rw [rowCells_length]; exact hm, ?_, hF, fun j u hj => ?_, ?_⟩
      · rw [List.all_eq_true]; intro c hc; rw [rowCells_noOwn _ _ _ c hc]; rfl
      · rw [List.getElem?_map] at hj
        obtain ⟨j', hj', rfl⟩ := Option.map_eq_some_iff.1 hj
        have hjj : j' = j ∧ j < (kinds E.P e).length := by
          have h2 := List.getElem?_eq_some_iff.1 hj'
          obtain ⟨h3, h4⟩ := h2
          simp at h3 h4
          exact ⟨h4.symm, h3⟩
        rw [hjj.1, Nat.add_assoc]
        exact hcells i.toNat j hin hjj.2
      · refine rowCells_rep (by simp) (fun j k u hk hu => ?_) d
        rw [List.getElem?_map] at hu
        obtain ⟨j', hj', rfl⟩ := Option.map_eq_some_iff.1 hu
        obtain ⟨h3, h4⟩ := List.getElem?_eq_some_iff.1 hj'
        simp at h3 h4
        subst h4
        rw [h.P]
        exact hrr i.toNat j k hin hk
theorem Rel.extract_at (h : Rel E w0 X st a cx) (x : Operand) (i : Nat) (ho : o.op = .extract x i) {ps : List (Bool × List Cell)} (hx : Ev.opnd E (get st) x = .tup ps) {ag : Bool} {cs : List Cell} (hp : ps[i]? = some (ag, cs)) : ∃ v, (execOp a.eval o).run E.P cx.w = .ok (.value v) cx.w ∧ ∃ off' ws, CellsRep cx 0 off' cs ws ∧ ((ag = true ∧ v = .agg ws.toArray) ∨ (ag = false ∧ ws = [v])) := by
  obtain ⟨vs, hv, hr⟩ := (hx ▸ h.opnd 0 x : AVRep cx 0 (.tup ps) (a.eval x))
  have key : ∀ {ps : List (Bool × List Cell)} {off i : Nat} {vs : List Value} {ag : Bool} {cs : List Cell}, PartsRep cx 0 off ps vs → ps[i]? = some (ag, cs) → ∃ v, vs[i]? = some v ∧ ∃ off' ws, CellsRep cx 0 off' cs ws ∧ ((ag = true ∧ v = .agg ws.toArray) ∨ (ag = false ∧ ws = [v])) := by
    intro ps
    induction ps with
    | nil => intro off i vs ag cs _ hi; simp at hi
    | cons p ps ih =>
      intro off i vs ag cs hp hi
      obtain ⟨a', cs'⟩ := p
      cases vs with
      | nil => cases a' <;> simp [PartsRep] at hp
      | cons v vs =>
        cases i with
        | zero =>
          obtain ⟨rfl, rfl⟩ := Prod.mk.inj (Option.some.inj hi)
          cases a' with
          | true => obtain ⟨⟨ws, rfl, hc⟩, hr⟩ := hp; exact ⟨_, rfl, off, ws, hc, .inl ⟨rfl, rfl⟩⟩
          | false => obtain ⟨hc, hr⟩ := hp; exact ⟨_, rfl, off, [v], hc, .inr ⟨rfl, rfl⟩⟩
        | succ i =>
          cases a' with
          | true => obtain ⟨_, hr⟩ := hp; obtain ⟨v', h1, h2⟩ := ih hr (by simpa using hi); exact ⟨v', by simpa using h1, h2⟩
          | false => obtain ⟨_, hr⟩ := hp; obtain ⟨v', h1, h2⟩ := ih hr (by simpa using hi); exact ⟨v', by simpa using h1, h2⟩
  obtain ⟨v, hvi, off', ws, hc, hag⟩ := key hr hp
  refine ⟨v, ?_, off', ws, hc, hag⟩
  simp only [execOp, ho, hv, Instr.extract, Sem.run_bind]
  simp [hvi]
theorem Rel.q_extract (h : Rel E w0 X st a cx) (x : Operand) (i : Nat) (ho : o.op = .extract x i) {ps : List (Bool × List Cell)} (hx : Ev.opnd E (get st) x = .tup ps) {ag : Bool} {cs : List Cell} (hp : ps[i]? = some (ag, cs)) : Goal E o a cx (.p ag cs) := by
  have hno : ∀ c ∈ cs, isOwn c = false := by
    have h1 := opnd_noOwner E (get st) h.glob x
    rw [hx] at h1
    have h2 := List.any_eq_false.1 h1 (ag, cs) (List.mem_of_getElem? hp)
    simp only [List.any_eq_true, not_exists, not_and] at h2
    exact fun c hc => by simpa using h2 c hc
  obtain ⟨v, hrun, off', ws, hc, hag⟩ := h.extract_at x i ho hx hp
  exact Goal.same hrun (p_rep hag fun d => hc.moved hno) (p_noOwner hno)
theorem ptr_range {e : Nat} (h : isPtrT e = true) : 1800000000 ≤ e ∧ e < 2000000000 := by
  unfold isPtrT at h
  rw [Bool.and_eq_true] at h
  exact ⟨Nat.le_of_ble_eq_true h.1, Nat.le_of_ble_eq_true h.2⟩
/-- What a pointer in a cell is. -/
theorem RepD.pointer {P : Program} {w : World} {F : Nat → Prop} {e : TypeId} {rows : List (List D)} {v : Value} (h : RepD P w F (.sl e) (.l rows) v) (he : isPtrT e = true) (hz : (kinds P e).length = 0) :
    (rows = [] ∧ v = .pointer none) ∨ (rows.length = 1 ∧ ∃ (b : Nat) (vs : Nat → Value), v = .pointer (some ⟨b, 0, none⟩) ∧ ¬ F b ∧ (∀ j, j < (kinds P (ptrT e)).length → w.cell? ⟨b, j, none⟩ = some (vs j)) ∧ ∀ j k, (kinds P (ptrT e))[j]? = some k → RepD P w F k ((rows.getD 0 []).getD j .j) (vs j)) := by
  obtain ⟨c1, c2⟩ := ptr_range he
  generalize hd : D.l rows = d at h
  cases h with
  | fn _ _ he' => unfold isFnT at he'; rw [Bool.and_eq_true] at he'; exact (Nat.lt_irrefl _ (Nat.lt_of_lt_of_le (Nat.le_of_ble_eq_true he'.2) (Nat.le_trans (by decide) c1))).elim
  | clo _ _ b he' => exact (Nat.lt_irrefl _ (Nat.lt_of_lt_of_le c2 (Nat.le_of_ble_eq_true he'))).elim
  | cap _ _ vs he' => unfold isCapT at he'; rw [Bool.and_eq_true] at he'; exact (Nat.lt_irrefl _ (Nat.lt_of_lt_of_le (Nat.le_of_ble_eq_true he'.2) c1)).elim
  | pnil _ _ _ _ hr => subst hd; exact .inl ⟨hr, rfl⟩
  | ptr _ _ b vs _ _ hn _ hF hc hr => subst hd; exact .inr ⟨hn, b, vs, rfl, hF, hc, hr⟩
  | nil _ _ a c hh hk' =>
    rcases hk' with hk' | hk'
    · exact (Nat.lt_irrefl _ (Nat.lt_of_lt_of_le (Nat.le_of_ble_eq_true hk') (Nat.le_trans (by decide) c1))).elim
    · omega
  | sl _ _ b o c n vs hn hh hm => omega
theorem Rel.q_extractP (h : Rel E w0 X st a cx) (x : Operand) (i : Nat) (ho : o.op = .extract x i) {ps : List (Bool × List Cell)} (hx : Ev.opnd E (get st) x = .tup ps) {e : TypeId} {rows : List (List D)} (hp : ps[i]? = some (false, [.sl 0 e rows])) (he : isPtrT e = true) (h0 : 0 < (kinds E.P (ptrT e)).length) (hz : (kinds E.P e).length = 0) :
    (rows.length = 1 → Goal E o a cx (.ro (rowCells (kinds E.P (ptrT e)) (rows.getD 0 []) 0) 0)) ∧ (rows.length = 0 → Goal E o a cx (.p false [.v (.pointer none)])) := by
  obtain ⟨v, hrun, off', ws, hc, hag⟩ := h.extract_at x i ho hx hp
  rcases hag with ⟨h1, _⟩ | ⟨_, rfl⟩
  · cases h1
  have hr : RepD cx.P cx.w (Forb cx) (.sl e) (.l rows) v := hc.2.2 0 _ v rfl rfl
  rw [h.P] at hr
  rcases hr.pointer he hz with ⟨rfl, rfl⟩ | ⟨hn, b, vs, rfl, hF, hcells, hrr⟩
  · exact ⟨fun hh => by simp at hh, fun _ => Goal.plain hrun rfl⟩
  · refine ⟨fun _ => ?_, fun hh => by omega⟩
    refine Goal.same hrun (fun d => ⟨b, 0, (List.range (kinds E.P (ptrT e)).length).map vs, rfl, by rw [rowCells_length]; exact h0, ?_, hF, fun j u hj => ?_, ?_⟩) rfl
    · rw [List.all_eq_true]; intro c hc; rw [rowCells_noOwn _ _ _ c hc]; rfl
    · rw [List.getElem?_map] at hj
      obtain ⟨j', hj', rfl⟩ := Option.map_eq_some_iff.1 hj
      obtain ⟨h3, h4⟩ := List.getElem?_eq_some_iff.1 hj'
      simp at h3 h4
      subst h4
      rw [Nat.zero_add]
      exact hcells j h3
    · refine rowCells_rep (by simp) (fun j k u hk hu => ?_) d
      rw [List.getElem?_map] at hu
      obtain ⟨j', hj', rfl⟩ := Option.map_eq_some_iff.1 hu
      obtain ⟨h3, h4⟩ := List.getElem?_eq_some_iff.1 hj'
      simp at h3 h4
      subst h4
      rw [h.P]
      exact hrr j k hk
theorem Rel.q_len (h : Rel E w0 X st a cx) (x : Operand) (t : TypeId) (args : Array Operand) (ts : Array TypeId) (ho : o.op = .call { callee := .builtin .len, args := args, argTypes := ts }) (ha : args.toList = [x]) (hts : ts.toList = [t]) {c : Cell} (hx : Ev.opnd E (get st) x = .p false [c])
    {q : Nat} {e e' : TypeId} {xs : List (List D)} (hc : res (get st) c = .sl q e xs) (ht : E.P.underlying t = some (.slice e')) (hk0 : 0 < (kinds E.P e).length) : Goal E o a cx (.p false [.v (.int .i64 (xs.length : Int))]) := by
  have ha' : args = #[x] := by rw [← Array.toArray_toList (xs := args), ha]
  have ht' : ts = #[t] := by rw [← Array.toArray_toList (xs := ts), hts]
  subst ha' ht'
  have hr : CellsRep cx 0 0 [c] [a.eval x] := (hx ▸ h.opnd 0 x : AVRep cx 0 (.p false [c]) (a.eval x))
  have hcr := hr.2.2 0 c (a.eval x) rfl rfl
  have hs : ∃ ad cp, a.eval x = .slice ad xs.length cp := by
    cases c with
    | u => cases hc
    | v y => cases hc
    | sl o' e1 xs1 =>
      have : Cell.sl o' e1 xs1 = .sl q e xs := hc
      obtain ⟨rfl, rfl, rfl⟩ := Cell.sl.inj this
      cases o' with
      | zero =>
        have hcr' : RepD cx.P cx.w (Forb cx) (.sl e1) (.l xs1) (a.eval x) := hcr
        generalize hv : a.eval x = v at hcr'
        cases hcr' with
        | fn _ _ he hk => rw [h.P] at hk; omega
        | clo _ _ b he hk hF' hcl => rw [h.P] at hk; omega
        | cap _ _ _ he hk => rw [h.P] at hk; omega
        | pnil _ _ he hk => rw [h.P] at hk; omega
        | ptr _ _ _ _ he hk => rw [h.P] at hk; omega
        | nil _ _ a' c' h0 => have : xs1 = [] := h0; subst this; exact ⟨_, _, rfl⟩
        | sl _ _ b off cp n vs hn => have : n = xs1.length := hn; subst this; exact ⟨_, _, rfl⟩
      | succ o' =>
        obtain ⟨⟨_, flat, hf, _⟩, _⟩ := hcr
        rcases hf.2 with ⟨h1, h2⟩ | ⟨g, cap, cur, h1, _⟩
        · exact ⟨none, 0, by rw [h1, h2]⟩
        · exact ⟨_, _, h1⟩
    | ref d j =>
      obtain ⟨e'', hpl⟩ := hcr
      simp only [res] at hc
      cases hca : cellAt (get st d) j with
      | sl o' e1 xs1 => cases o' with
        | zero => rw [hca] at hc; cases hc
        | succ o' =>
          rw [hca] at hc
          obtain ⟨_, _, rfl⟩ := Cell.sl.inj hc
          obtain ⟨v, h1, ⟨_, flat, hf, _⟩, _⟩ := h.place hca
          obtain ⟨_, hv⟩ := Prod.mk.inj (Option.some.inj (hpl.symm.trans h1))
          rcases hf.2 with ⟨h3, h2⟩ | ⟨g, cap, cur, h3, _⟩
          · exact ⟨none, 0, by rw [hv, h3, h2]⟩
          · exact ⟨_, _, hv.trans h3⟩
      | _ => rw [hca] at hc; cases hc
  obtain ⟨ad, cp, hv⟩ := hs
  refine Goal.plain ?_ rfl
  simp [execOp, ho, resolve, invoke, builtin, Builtin.len_, hv, run_underlying ht, goInt]
/-! ### Arithmetic -/
theorem Rel.q_bin (h : Rel E w0 X st a cx) (op : BinOp) (t : TypeId) (x y : Operand) (yt : TypeId) (ho : o.op = .binOp op t x y yt) {p q r : Value} (hp : plainV (Ev.opnd E (get st) x) = some p) (hq : plainV (Ev.opnd E (get st) y) = some q)
    (hr : (do eqGuard op t x y p q; binOp op t p q : Sem Value).run E.P cx.w = .ok r cx.w) (h1 : r.oneCell' = true) : Goal E o a cx (.p false [.v r]) := by
  refine Goal.plain ?_ h1
  have hx := h.plain hp
  have hy := h.plain hq
  simp only [execOp, ho, hx, hy]
  rw [Sem.run_bind, hr]; rfl
theorem guard_quiet (op : BinOp) (t : TypeId) (x y : Operand) (p q : Value) (h : (op = .eql ∨ op = .neq) → False) (P : Program) (w : World) : (eqGuard op t x y p q).run P w = .ok () w := by
  unfold eqGuard
  cases op <;> first | rfl | exact (h (by simp)).elim
theorem eqV_run {E : Env} : ∀ (d : Nat) (t : TypeId) (x y : Value) (b : Bool), eqV E d t x y = some b → ∀ w, (Op.equalIn d t x y).run E.P w = .ok b w := by
  intro d
  induction d with
  | zero => intro t x y b h; cases h
  | succ d ih =>
    intro t x y b h w
    cases hu : E.P.underlying t with
    | none => unfold eqV at h; rw [hu] at h; cases h
    | some ds =>
      unfold eqV at h
      rw [hu] at h
      cases ds with
      | bool => cases x <;> cases y <;> first | (cases h; done) | (obtain rfl := Option.some.inj h; exact run_equalIn_bool w d t _ _ hu)
      | int k' =>
        cases x <;> cases y <;> first | (cases h; done) | skip
        rename_i k a k2 b2
        dsimp only at h
        by_cases hk : k = k2
        · subst hk; simp only [decide_true, cond_true] at h
          obtain rfl := Option.some.inj h
          simp [Op.equalIn, run_underlying hu]
        · simp only [hk, decide_false, cond_false] at h; cases h
      | string =>
        cases x <;> cases y <;> first | (cases h; done) | skip
        obtain rfl := Option.some.inj h
        simp [Op.equalIn, run_underlying hu]
      | struct fs =>
        cases x <;> cases y <;> first | (cases h; done) | skip
        rename_i xs ys
        dsimp only at h
        cases hst : E.P.stoodInHeld t with
        | true => rw [hst] at h; cases h
        | false =>
          rw [hst, cond_false] at h
          have key : ∀ (l : List Field) (r : Bool), l.foldr (fun f acc => bif f.name == "_" then none else
              match acc, qrun E.P (part f.type xs f.offset), qrun E.P (part f.type ys f.offset) with
              | some r, some x', some y' => match eqV E d f.type x' y' with
                | some b => some (b && r)
                | none => none
              | _, _, _ => none) (some true) = some r → (Op.eqFields d xs ys l).run E.P w = .ok r w := by
            intro l
            induction l with
            | nil => intro r hr; obtain rfl := Option.some.inj hr; rfl
            | cons f l ihl =>
              intro r hr
              rw [List.foldr_cons] at hr
              cases hn : (f.name == "_") with
              | true => rw [hn] at hr; cases hr
              | false =>
                rw [hn, cond_false] at hr
                split at hr
                · rename_i r' x' y' h1 h2 h3
                  split at hr
                  · rename_i b' hb'
                    obtain rfl := Option.some.inj hr
                    have hne : f.name ≠ "_" := fun e => by rw [e] at hn; simp at hn
                    simp only [Op.eqFields, if_pos hne, Sem.run_bind, qrun_run h2 w, qrun_run h3 w, Result.andThen_ok, ih _ _ _ _ hb' w]
                    cases b' with
                    | true => simp [ihl r' h1]
                    | false => simp
                  · cases hr
                · cases hr
          have hfo : E.P.fieldsOf t = fs := by unfold Program.fieldsOf; rw [hu]
          rw [run_equalIn_struct (P := E.P) w d t xs ys (by rw [hfo]; exact hu) hst, hfo]
          exact key fs.toList b h
      | _ => cases x <;> cases y <;> cases h
end
end Go.Proofs.YtpanhndkcnojpaaDoor.Ev
/- The evaluator's quiet operations are what the model runs: indices into strings and arrays, what is built and made. No condition. -/
namespace Go.Proofs.YtpanhndkcnojpaaDoor.Ev
open Go Go.RowKit
set_option linter.unusedVariables false
set_option linter.unusedSimpArgs false
section
variable {E : Env} {w0 : World} {X : Nat → Prop} {st : St} {a : Act} {cx : Cx} {o : Oper} {av : AV}
theorem bytes_get (s : ByteArray) (i : Nat) (h : i < s.size) : s.data.toList.getD i 0 = s[i] := by
  rw [List.getD_eq_getElem?_getD, List.getElem?_eq_getElem (by simpa using h)]; rfl
theorem Rel.q_idxstr (h : Rel E w0 X st a cx) (t : TypeId) (x ix : Operand) (ho : o.op = .index t x ix) {s : ByteArray} {kd : IntKind} {i : Int} (hx : plainV (Ev.opnd E (get st) x) = some (.string s)) (hi : plainV (Ev.opnd E (get st) ix) = some (.int kd i)) (ht : E.P.underlying t = some .string)
    (hb : (decide (0 ≤ i) && decide (i < (s.size : Int))) = true) : Goal E o a cx (.p false [.v (.int .u8 (bt s i))]) := by
  simp only [Bool.and_eq_true, decide_eq_true_eq] at hb
  refine Goal.plain ?_ rfl
  simp only [execOp, ho, h.plain hx, h.plain hi, Sem.run_bind, run_index_string (P := E.P) cx.w t s kd i ht, dif_pos hb, Result.andThen_ok, Sem.run_pure]
  unfold bt; rw [bytes_get s i.toNat (by omega)]
theorem intsOf_spec {k : IntKind} : ∀ {l : List Value} {ns : List Int}, intsOf k l = some ns → l = ns.map (.int k)
  | [], ns, h => by obtain rfl := Option.some.inj h; rfl
  | x :: l, ns, h => by
    cases x <;> first | (cases h; done) | skip
    rename_i k' n
    simp only [intsOf] at h
    by_cases hk : k = k'
    · subst hk
      simp only [decide_true, cond_true] at h
      obtain ⟨ns', h1, rfl⟩ := Option.map_eq_some_iff.1 h
      rw [intsOf_spec h1]; rfl
    · simp only [hk, decide_false, cond_false] at h; cases h
theorem strsOf_spec : ∀ {l : List Value} {ns : List ByteArray}, strsOf l = some ns → l = ns.map .string
  | [], ns, h => by obtain rfl := Option.some.inj h; rfl
  | x :: l, ns, h => by
    cases x <;> first | (cases h; done) | skip
    simp only [strsOf] at h
    obtain ⟨ns', h1, rfl⟩ := Option.map_eq_some_iff.1 h
    rw [strsOf_spec h1]; rfl
theorem Rel.q_idxarr (h : Rel E w0 X st a cx) (t e : TypeId) (x ix : Operand) (ho : o.op = .index t x ix) {cs : Array Value} {kd : IntKind} {i : Int} {n : Nat} (hx : plainV (Ev.opnd E (get st) x) = some (.agg cs)) (hi : plainV (Ev.opnd E (get st) ix) = some (.int kd i)) (ht : E.P.underlying t = some (.array n e))
    (hn : cs.size = n) (hs : sizeP E.P e = 1) (hk : knownP E.P e = true) (ha : isAggP E.P e = false) {v : Value} (hb : (decide (0 ≤ i) && decide (i < (n : Int))) = true) (hv : cs.toList[i.toNat]? = some v) (h1 : v.oneCell' = true) : Goal E o a cx (.p false [.v v]) := by
  simp only [Bool.and_eq_true, decide_eq_true_eq] at hb
  refine Goal.plain ?_ h1
  have hv' : cs[i.toNat]? = some v := by simpa using hv
  simp only [execOp, ho, h.plain hx, h.plain hi, Instr.index, asIntOf, Sem.run_bind, Sem.run_pure, Result.andThen_ok, run_underlying ht, Sem.run_ite, if_pos hb, run_sizeOf (P := E.P) (t := e) (by omega), hs, Nat.mul_one, part, isAgg_run hk, ha, Bool.false_eq_true, if_false, hv']
theorem Rel.q_slicestr (h : Rel E w0 X st a cx) (t : TypeId) (x : Operand) (lo hi : Option Operand) (ho : o.op = .slice t x lo hi none) {s : ByteArray} {l u : Int} (hx : plainV (Ev.opnd E (get st) x) = some (.string s)) (ht : E.P.underlying t = some .string)
    (hl : (lo = none ∧ l = 0) ∨ ∃ y k, lo = some y ∧ plainV (Ev.opnd E (get st) y) = some (.int k l)) (hu : (hi = none ∧ u = (s.size : Int)) ∨ ∃ y k, hi = some y ∧ plainV (Ev.opnd E (get st) y) = some (.int k u))
    (hb : (decide (0 ≤ l) && decide (l ≤ u) && decide (u ≤ (s.size : Int))) = true) : Goal E o a cx (.p false [.v (.string (s.extract l.toNat u.toNat))]) := by
  simp only [Bool.and_eq_true, decide_eq_true_eq] at hb
  obtain ⟨⟨h0, h1⟩, h2⟩ := hb
  refine Goal.plain ?_ rfl
  have eu : (u.toNat : Int) = u := Int.toNat_of_nonneg (by omega)
  rcases hl with ⟨rfl, rfl⟩ | ⟨y, k, rfl, hy⟩ <;> rcases hu with ⟨rfl, rfl⟩ | ⟨z, k', rfl, hz⟩
  · simp [execOp, ho, h.plain hx, run_sliceAt_string (P := E.P) cx.w t _ _ _ _ ht, Instr.slice, run_underlying ht, Instr.sliceBounds]
  · simp [execOp, ho, h.plain hx, h.plain hz, run_sliceAt_string (P := E.P) cx.w t _ _ _ _ ht, Instr.slice, run_underlying ht, Instr.sliceBounds, run_sliceBound (P := E.P) cx.w k' u s.size _ (by omega) h2]
  · simp [execOp, ho, h.plain hx, h.plain hy, run_sliceAt_string (P := E.P) cx.w t _ _ _ _ ht, Instr.slice, run_underlying ht, Instr.sliceBounds, run_sliceBound (P := E.P) cx.w k l s.size _ h0 h1]
  · simp [execOp, ho, h.plain hx, h.plain hy, h.plain hz, run_sliceAt_string (P := E.P) cx.w t _ _ _ _ ht, Instr.slice, run_underlying ht, Instr.sliceBounds, run_sliceBound (P := E.P) cx.w k' u s.size _ (by omega) h2, run_sliceBound (P := E.P) cx.w k l u.toNat _ h0 (by omega)]
/-! ### What is built -/
def setAllV (vs : List Value) (o : Nat) : List Value → List Value
  | [] => vs
  | v :: r => setAllV (vs.set o v) (o + 1) r
theorem foldl_set (off : Nat) : ∀ (ws : List Value) (k : Nat) (cells : Array Value), (ws.zipIdx k).foldl (fun (cs : Array Value) x => cs.setIfInBounds (off + x.2) x.1) cells = (setAllV cells.toList (off + k) ws).toArray
  | [], k, cells => by simp [setAllV]
  | w :: ws, k, cells => by
    rw [List.zipIdx_cons, List.foldl_cons, foldl_set off ws (k + 1)]
    simp [setAllV, Nat.add_assoc]
theorem CellsRep.set {d : Nat} {cs : List Cell} {vs : List Value} (h : CellsRep cx d 0 cs vs) (i : Nat) {c : Cell} {v : Value} (hc : ∀ t j, CellRep cx t j c v) (h1 : v.oneCell' = true) : CellsRep cx d 0 (cs.set i c) (vs.set i v) := by
  refine ⟨by simp [h.1], fun u hu => ?_, fun j c' v' hj1 hj2 => ?_⟩
  · rcases List.mem_or_eq_of_mem_set hu with hu | rfl
    · exact h.2.1 u hu
    · exact h1
  · rw [List.getElem?_set] at hj1 hj2
    by_cases e : i = j
    · subst e
      rw [if_pos rfl] at hj1 hj2
      split at hj1
      · obtain rfl := Option.some.inj hj1
        split at hj2
        · obtain rfl := Option.some.inj hj2; exact hc _ _
        · cases hj2
      · cases hj1
    · rw [if_neg e] at hj1 hj2; exact h.2.2 j c' v' hj1 hj2
theorem CellsRep.setAll {d : Nat} : ∀ {ws : List Value} {new : List Cell} {cs : List Cell} {vs : List Value} (off : Nat), CellsRep cx d 0 cs vs → CellsRep cx 0 0 new ws → (∀ c ∈ new, isOwn c = false) → CellsRep cx d 0 (setAll cs off new) (setAllV vs off ws)
  | [], [], cs, vs, off, h, _, _ => h
  | [], _ :: _, _, _, _, _, hn, _ => by have := hn.1; simp at this
  | _ :: _, [], _, _, _, _, hn, _ => by have := hn.1; simp at this
  | w :: ws, c :: new, cs, vs, off, h, hn, hno =>
    CellsRep.setAll (off + 1) (h.set off (c := c) (v := w) (fun t j => (hn.2.2 0 c w rfl rfl).moved (hno c (by simp))) (hn.2.1 w (by simp)))
      ⟨by have := hn.1; simpa using this, fun v hv => hn.2.1 v (by simp [hv]), fun j c' v' h1 h2 => (hn.2.2 (j + 1) c' v' (by simpa using h1) (by simpa using h2)).moved (hno c' (by simp [List.mem_of_getElem? h1]))⟩ (fun c' hc' => hno c' (by simp [hc']))
theorem setAll_length : ∀ (new cs : List Cell) (off : Nat), (setAll cs off new).length = cs.length
  | [], cs, off => rfl
  | c :: new, cs, off => by simp [setAll, setAll_length new]
theorem setAll_noOwn : ∀ {new cs : List Cell} (off : Nat), (∀ c ∈ cs, isOwn c = false) → (∀ c ∈ new, isOwn c = false) → ∀ c ∈ setAll cs off new, isOwn c = false
  | [], cs, off, h, _ => h
  | c :: new, cs, off, h, hn => setAll_noOwn (off + 1) (fun c' hc' => by
      rcases List.mem_or_eq_of_mem_set hc' with hc' | rfl
      · exact h c' hc'
      · exact hn _ (by simp)) (fun c' hc' => hn c' (by simp [hc']))
theorem Rel.fill (h : Rel E w0 X st a cx) (pl : Nat → Option (Nat × Nat)) : ∀ {parts : List (Nat × Operand)} {cells cells' : List Cell} {vs : List Value}, fillA E (get st) pl cells parts = some cells' → (∀ d, CellsRep cx d 0 cells vs) → (∀ c ∈ cells, isOwn c = false) →
    ∃ vs' : List Value, Instr.fill pl vs.toArray (parts.map fun (i, x) => (i, a.eval x)) = some vs'.toArray ∧ (∀ d, CellsRep cx d 0 cells' vs') ∧ ∀ c ∈ cells', isOwn c = false
  | [], cells, cells', vs, hf, hr, hno => by obtain rfl := Option.some.inj hf; exact ⟨vs, rfl, hr, hno⟩
  | (i, x) :: parts, cells, cells', vs, hf, hr, hno => by
    simp only [fillA] at hf
    split at hf
    · rename_i off n cs hp hc
      cases hb : (Nat.beq cs.length n && decide (off + n ≤ cells.length)) with
      | false => rw [hb] at hf; cases hf
      | true =>
        rw [hb, cond_true] at hf
        simp only [Bool.and_eq_true, decide_eq_true_eq] at hb
        obtain ⟨ws, hv, hrw⟩ := cellsOf_rep hc (fun d => h.opnd d x)
        have hnw := opnd_cells_noOwn E _ h.glob x hc
        have hlen : ws.length = n := by rw [← (hrw 0).1]; exact Nat.eq_of_beq_eq_true hb.1
        obtain ⟨vs', h1, h2, h3⟩ := Rel.fill h pl (vs := setAllV vs off ws) hf (fun d => (hr d).setAll off (hrw 0) hnw) (setAll_noOwn off hno hnw)
        refine ⟨vs', ?_, h2, h3⟩
        simp only [List.map_cons, Instr.fill, hp, hv]
        have hl := (hr 0).1
        have h4 : ws.toArray.zipIdx.foldl (fun (cs : Array Value) x => cs.setIfInBounds (off + x.2) x.1) vs.toArray = (setAllV vs off ws).toArray := by
          have := foldl_set off ws 0 vs.toArray
          simp only [Nat.add_zero] at this
          rw [← this]; simp
        rw [if_neg (by simp [hlen]; omega)]
        exact (congrArg (fun q => Instr.fill pl q (parts.map fun (i, x) => (i, a.eval x))) h4).trans h1
    · cases hf
end
end Go.Proofs.YtpanhndkcnojpaaDoor.Ev
