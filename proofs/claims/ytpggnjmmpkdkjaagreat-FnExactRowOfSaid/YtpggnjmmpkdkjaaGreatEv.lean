/- An abstract evaluator of the program's code: plain values as they are, slices as lists of rows, variables in memory as lists of cells. What it answers is shown sound in the text EvSound. No condition. -/
import Derived.LoopN
import Derived.Below
import Derived.Laws.OwnMore
import Derived.Laws.MakeOwn
import Derived.Orders
import Derived.KernelRfl
namespace Go.Proofs.YtpggnjmmpkdkjaaGreat.Ev
open Go
/-- Data: what a slice's rows, an argument and a result are told as. -/
inductive D where
  | j
  | i (n : Int)
  | b (b : Bool)
  | s (s : ByteArray)
  | l (xs : List (List D))
def D.int : D → Int | .i x => x | _ => 0
def D.bool : D → Bool | .b x => x | _ => false
def D.str : D → ByteArray | .s x => x | _ => .empty
def D.rows : D → List (List D) | .l x => x | _ => []
/-- The kind of a cell. -/
inductive K where
  | int (k : IntKind)
  | bool
  | str
  | sl (e : TypeId)
/-- A cell, as the evaluator knows it: nothing; this very value; a slice (own: 0 only read, 1 the call's own row, 2 a row that came in to be written); what lies in cell j of slot d. -/
inductive Cell where
  | u
  | v (x : Value)
  | sl (own : Nat) (e : TypeId) (xs : List (List D))
  | ref (d j : Nat)
/-- A slot: nothing; a value out of cells; a tuple; the pointer to a variable of the call's own (its cells); a pointer into the variable of slot d; a pointer into row i of the slice at cell j of slot d; a pointer to cells that are only read; a function. -/
inductive AV where
  | u
  | p (agg : Bool) (cs : List Cell)
  | tup (ps : List (Bool × List Cell))
  | box (own : Bool) (cs : List Cell)
  | pat (d o : Nat)
  | pel (d j : Nat) (i : Int) (o : Nat)
  | ro (cs : List Cell) (o : Nat)
  | fn (f : Nat)
abbrev St := List (Nat × AV)
def get : St → Nat → AV
  | [], _ => .u
  | (i, a) :: r, t => bif Nat.beq i t then a else get r t
/-- A decision tree, with calls. -/
inductive Br (α : Type) where
  | none
  | ret (a : α)
  | br (b : Bool) (t e : Br α)
  | opt (o : Option (List D)) (f : List D → Br α)
def Br.bind {α β : Type} : Br α → (α → Br β) → Br β
  | .none, _ => .none
  | .ret a, f => f a
  | .br b t e, f => .br b (t.bind f) (e.bind f)
  | .opt o g, f => .opt o fun t => (g t).bind f
def Br.k {α β : Type} : Br α → (α → Option β) → Option β
  | .none, _ => .none
  | .ret a, f => f a
  | .br b t e, f => bif b then t.k f else e.k f
  | .opt o g, f => o.bind fun t => (g t).k f
def Br.run {α : Type} : Br α → Option α
  | .none => .none
  | .ret a => some a
  | .br b t e => bif b then t.run else e.run
  | .opt o g => o.bind fun t => (g t).run
def Br.of {α : Type} : Option α → Br α
  | some a => .ret a
  | Option.none => .none
def qrun {α : Type} (p : Program) : Sem α → Option α
  | .pure a => some a
  | .program k => qrun p (k p)
  | _ => none
section
variable (P : Program)
def kindOf (t : TypeId) : Option K :=
  match P.underlying t with
  | some .bool => some .bool
  | some (.int k) => some (.int k)
  | some .string => some .str
  | some (.slice e) => some (.sl e)
  | _ => none
def cellTypes : Nat → TypeId → List TypeId
  | 0, _ => []
  | n + 1, t =>
    match P.underlying t with
    | some (.struct fs) => fs.toList.flatMap fun f => cellTypes n f.type
    | some (.array len e) => (List.replicate len (cellTypes n e)).flatten
    | _ => [t]
def kindsOf : List TypeId → Option (List K)
  | [] => some []
  | t :: r => match kindOf P t, kindsOf r with
    | some k, some ks => some (k :: ks)
    | _, _ => none
/-- The kinds of the cells of a row of element type e. -/
def kinds (e : TypeId) : List K := (kindsOf P (cellTypes P 9 e)).getD []
def isAggP (t : TypeId) : Bool :=
  match P.underlying t with
  | some (.struct _) | some (.array _ _) => true
  | _ => false
def knownP (t : TypeId) : Bool := (P.underlying t).isSome
def sizeP (t : TypeId) : Nat := ((P.info? t).map (·.size)).getD 0
end
def cellOf (k : K) (d : D) : Cell :=
  match k with
  | .int k => .v (.int k d.int)
  | .bool => .v (.bool d.bool)
  | .str => .v (.string d.str)
  | .sl e => .sl 0 e d.rows
def rowCells : List K → List D → Nat → List Cell
  | [], _, _ => []
  | k :: ks, r, i => cellOf k (r.getD i .j) :: rowCells ks r (i + 1)
def packCell (k : K) (c : Cell) : Option D :=
  match k, c with
  | .int k, .v (.int k' n) => bif decide (k = k') then some (.i n) else none
  | .bool, .v (.bool b) => some (.b b)
  | .str, .v (.string s) => some (.s s)
  | .sl e, .sl _ e' xs => bif Nat.beq e e' then some (.l xs) else none
  | .sl e, .v (.slice none 0 0) => bif Nat.blt e 1000000000 then some (.l []) else none
  | _, _ => none
def packCells : List K → List Cell → Option (List D)
  | [], [] => some []
  | k :: ks, c :: cs => match packCell k c, packCells ks cs with
    | some d, some ds => some (d :: ds)
    | _, _ => none
  | _, _ => none
def gi (t : List D) (i : Nat) : Int := (t.getD i .j).int
def gb (t : List D) (i : Nat) : Bool := (t.getD i .j).bool
def gs (t : List D) (i : Nat) : ByteArray := (t.getD i .j).str
def gl (t : List D) (i : Nat) : List (List D) := (t.getD i .j).rows
def ri (l : List (List D)) (i : Int) (j : Nat) : Int := gi (l.getD i.toNat []) j
def rb (l : List (List D)) (i : Int) (j : Nat) : Bool := gb (l.getD i.toNat []) j
def rs (l : List (List D)) (i : Int) (j : Nat) : ByteArray := gs (l.getD i.toNat []) j
def rl (l : List (List D)) (i : Int) (j : Nat) : List (List D) := gl (l.getD i.toNat []) j
def look {α : Type} : List (Nat × α) → Nat → Option α
  | [], _ => none
  | (i, a) :: r, t => bif Nat.beq i t then some a else look r t
def band (k : IntKind) (x y : Int) : Int := k.wrap ((BitVec.ofInt k.bits x &&& BitVec.ofInt k.bits y).toNat : Int)
def bor (k : IntKind) (x y : Int) : Int := k.wrap ((BitVec.ofInt k.bits x ||| BitVec.ofInt k.bits y).toNat : Int)
def bxor (k : IntKind) (x y : Int) : Int := k.wrap ((BitVec.ofInt k.bits x ^^^ BitVec.ofInt k.bits y).toNat : Int)
def bandn (k : IntKind) (x y : Int) : Int := k.wrap ((BitVec.ofInt k.bits x &&& ~~~(BitVec.ofInt k.bits y)).toNat : Int)
/-! ### What the printed forms are made of -/
def ltI (a b : Int) : Bool := decide (a < b)
def leI (a b : Int) : Bool := decide (a ≤ b)
def eqI (a b : Int) : Bool := decide (a = b)
def leN (a b : Nat) : Bool := decide (a ≤ b)
def inR (i n : Int) : Bool := decide (0 ≤ i) && decide (i < n)
def leR (i n : Int) : Bool := decide (0 ≤ i) && decide (i ≤ n)
def inS (l h n : Int) : Bool := decide (0 ≤ l) && decide (l ≤ h) && decide (h ≤ n)
def mkOk (l c : Int) (b : Nat) : Bool := decide (0 ≤ l) && decide (l ≤ c) && decide (c * (b : Int) ≤ 140737488355328)
def mkOk1 (n : Int) (b : Nat) : Bool := decide (0 < n) && decide (n * (b : Int) ≤ 140737488355328)
def apOk (n b : Nat) : Bool := decide (n * b ≤ 140737488355328) && decide (n ≤ 4611686018427387904)
def mxI (a b : Int) : Int := if b > a then b else a
def mnI (a b : Int) : Int := if b < a then b else a
/-! ### Places -/
def cellAt : AV → Nat → Cell
  | .p _ cs, j => cs.getD j .u
  | .tup ps, j => (ps.flatMap (·.2)).getD j .u
  | .box _ cs, j => cs.getD j .u
  | _, _ => .u
/-- What a cell reads as; a reference to a slice of the call's own is followed. -/
def res (g : Nat → AV) : Cell → Cell
  | .ref d j => match cellAt (g d) j with
    | .sl (o + 1) e xs => .sl (o + 1) e xs
    | _ => .u
  | c => c
def isOwn : Cell → Bool
  | .sl (_ + 1) _ _ => true
  | _ => false
def refsOf (t : Nat) : List Cell → Nat → List Cell
  | [], _ => []
  | c :: cs, j => (bif isOwn c then .ref t j else c) :: refsOf t cs (j + 1)
def refsTup (t : Nat) : List (Bool × List Cell) → Nat → List (Bool × List Cell)
  | [], _ => []
  | (a, cs) :: ps, j => (a, refsOf t cs j) :: refsTup t ps (j + cs.length)
/-- A slot's content, copied: slices of the call's own stay where they are. -/
def copyOf (t : Nat) : AV → AV
  | .p a cs => .p a (refsOf t cs 0)
  | .tup ps => .tup (refsTup t ps 0)
  | .box _ _ => .pat t 0
  | av => av
def ofV : Value → AV
  | .agg cs => bif cs.toList.all Value.oneCell' then .p true (cs.toList.map .v) else .u
  | .tuple _ => .u
  | x => .p false [.v x]
def allV : List Cell → Option (List Value)
  | [] => some []
  | .v x :: cs => (allV cs).map (x :: ·)
  | _ :: _ => none
def plainV : AV → Option Value
  | .p false [.v x] => some x
  | .p true cs => (allV cs).map fun l => .agg l.toArray
  | _ => none
structure Spec where
  pt : List (Nat × List K)        -- a parameter: 0 one cell, 1 a struct, 2 a pointer that is only read by, 3 a slice that is written, 4 a pointer that is written by
  rt : List (Bool × List (K × Nat))        -- the parts of the result: a struct or one cell; its cells' kinds; of a slice: 1 if it is new
  G : List D → Option (List D)
structure Loop where
  keep : List (Nat × Nat × List (K × Nat))    -- slot; its form (0 one cell, 1 a struct, 2 a pointer that is only read by, 5 a variable, 6 a variable of the caller's); its cells' kinds, and of a slice whose it is
  codes : List Nat
  G : Nat → List D → Option (List D)
structure Env where
  P : Program
  fuel : Nat
  spec : Nat → Option Spec
  loop : Nat → Option Loop
  glob : Nat → Option (List Value)
  nt : Nat
section
variable (E : Env) (g : Nat → AV)
def opnd : Operand → AV
  | .tmp t => copyOf t (g t)
  | .const v => ofV v
  | .global n => match E.glob n with
    | some vs => .ro (vs.map .v) 0
    | none => .u
  | .func f => .fn f
def rho (x : Operand) : Value := (plainV (opnd E g x)).getD undef
def isPlain (x : Operand) : Bool := (plainV (opnd E g x)).isSome
/-- An operation over plain values, as the model itself runs it. -/
def evPlain (o : Oper) : Br AV :=
  bif o.op.operands.toList.all (isPlain E g) then
    match qrun E.P (execOp (rho E g) o) with
    | some (.value v) => bif v.oneCell' then .ret (.p false [.v v]) else .none
    | _ => .none
  else .none
def mv : AV → Br AV
  | .u => .none
  | a => .ret a
/-- '==' of values, as the model compares them, without its early returns. -/
def eqV : Nat → TypeId → Value → Value → Option Bool
  | 0, _, _, _ => none
  | d + 1, t, x, y =>
    match E.P.underlying t, x, y with
    | some .bool, .bool a, .bool b => some (a == b)
    | some (.int _), .int k a, .int k' b => bif decide (k = k') then some (a == b) else none
    | some .string, .string a, .string b => some (a == b)
    | some (.struct fs), .agg xs, .agg ys =>
      bif E.P.stoodInHeld t then none else
      fs.toList.foldr (fun f acc => bif f.name == "_" then none else
        match acc, qrun E.P (part f.type xs f.offset), qrun E.P (part f.type ys f.offset) with
        | some r, some x', some y' => match eqV d f.type x' y' with
          | some b => some (b && r)
          | none => none
        | _, _, _ => none) (some true)
    | _, _, _ => none
def takeAt (cs : List Cell) (o n : Nat) : List Cell := (cs.drop o).take n
/-- The rows of a slice, wherever they lie. -/
def rowsOf : Cell → Option (TypeId × List (List D))
  | .sl _ e xs => some (e, xs)
  | _ => none
def loadV (t : TypeId) (a : AV) : Br AV :=
  let n := sizeP E.P t
  let ag := isAggP E.P t
  let fin (cs : List Cell) : Br AV := bif Nat.beq cs.length n && ((ag || Nat.beq n 1) && (knownP E.P t && Nat.blt 0 n)) then .ret (.p ag cs) else .none
  match a with
  | .pat d o => match g d with
    | .box _ cs => fin (takeAt (refsOf d cs 0) o n)
    | _ => .none
  | .pel d j i o => match cellAt (g d) j with
    | .sl (_ + 1) e xs => fin (takeAt (rowCells (kinds E.P e) (xs.getD i.toNat []) 0) o n)
    | _ => .none
  | .ro cs o => fin (takeAt cs o n)
  | _ => .none
def fieldP (s : TypeId) (f : Nat) : Option Field :=
  match E.P.underlying s with
  | some (.struct fs) => match fs[f]? with
    | some fd => bif Nat.beq (sizeP E.P fd.type) 0 then none else some fd
    | none => none
  | _ => none
def cellsOf : AV → Option (List Cell)
  | .p _ cs => some cs
  | _ => none
def setAll (cs : List Cell) (o : Nat) : List Cell → List Cell
  | [] => cs
  | c :: r => setAll (cs.set o c) (o + 1) r
def placeOfPart (t : TypeId) (i : Nat) : Option (Nat × Nat) :=
  match E.P.underlying t with
  | some (.struct fs) => match fs[i]? with
    | some f => some (f.offset, sizeP E.P f.type)
    | none => none
  | some (.array _ e) => some (i * sizeP E.P e, sizeP E.P e)
  | _ => none
def fillA (pl : Nat → Option (Nat × Nat)) (cells : List Cell) : List (Nat × Operand) → Option (List Cell)
  | [] => some cells
  | (i, x) :: rest =>
    match pl i, cellsOf (opnd E g x) with
    | some (off, n), some cs => bif Nat.beq cs.length n && decide (off + n ≤ cells.length) then fillA pl (setAll cells off cs) rest else none
    | _, _ => none
def partsOk (P : Program) (t : TypeId) : Bool :=
  match P.underlying t with
  | some (.struct fs) => fs.toList.all fun f => (P.info? f.type).isSome
  | some (.array _ e) => (P.info? e).isSome
  | _ => false
def zeroCellsA (t : TypeId) : Option (List Cell) :=
  match E.P.info? t with
  | some i => match i.zero with
    | some z => bif z.cells.toList.all Value.oneCell' then some (z.cells.toList.map .v) else none
    | none => none
  | none => none
/-- Rows out of cells. -/
def packRows (ks : List K) : Nat → List Cell → Option (List (List D))
  | 0, _ => some []
  | n + 1, cs => match packCells ks (cs.take ks.length), packRows ks n (cs.drop ks.length) with
    | some r, some rs => some (r :: rs)
    | _, _ => none
/-- What an argument is told as. -/
def packArg (pt : Nat × List K) (a : AV) : Option (List D) :=
  match pt.1, a with
  | 0, .p false cs => packCells pt.2 (cs.map (res g))
  | 1, .p true cs => packCells pt.2 (cs.map (res g))
  | 7, .p false [.v (.slice none 0 0)] => match pt.2 with
    | [.sl _] => some [.l []]
    | _ => none
  | 2, .ro cs o => packCells pt.2 (takeAt cs o pt.2.length)
  | 2, .pat d o => match g d with
    | .box _ cs => packCells pt.2 ((takeAt cs o pt.2.length).map (res g))
    | _ => none
  | 2, .pel d j i o => match cellAt (g d) j with
    | .sl (_ + 1) e xs => packCells pt.2 (takeAt (rowCells (kinds E.P e) (xs.getD i.toNat []) 0) o pt.2.length)
    | _ => none
  | f + 10, .fn n => match pt.2 with
    | [.bool] => bif Nat.beq n f then some [.b true] else none
    | _ => none
  | _, _ => none
def packArgs : List (Nat × List K) → List Operand → Option (List D)
  | [], [] => some []
  | p :: ps, x :: xs => match (bif Nat.beq p.2.length 0 then none else packArg E g p (opnd E g x)), packArgs ps xs with
    | some d, some ds => some (d ++ ds)
    | _, _ => none
  | _, _ => none
def cellR (k : K × Nat) (d : D) : Cell :=
  match k.1 with
  | .sl e => .sl k.2 e d.rows
  | k => cellOf k d
def cellsR : List (K × Nat) → List D → Nat → List Cell
  | [], _, _ => []
  | k :: ks, ds, i => cellR k (ds.getD i .j) :: cellsR ks ds (i + 1)
def partsR : List (Bool × List (K × Nat)) → List D → Nat → List (Bool × List Cell)
  | [], _, _ => []
  | (a, ks) :: ps, ds, i => (a, cellsR ks ds i) :: partsR ps ds (i + ks.length)
def mkR (rt : List (Bool × List (K × Nat))) (ds : List D) : AV :=
  match partsR rt ds 0 with
  | [(a, cs)] => .p a cs
  | ps => .tup ps
def isSl : K → Bool
  | .sl _ => true
  | _ => false
/-! ### Functions as values: a kind .sl e with a number e that no type has. From 10^9 on: the function e - 10^9; from 2 * 10^9 on: function (e - 2 * 10^9) / 10^5, which has captured a variable that holds function (e - 2 * 10^9) % 10^5 and is only read. -/
def isFnT (e : Nat) : Bool := Nat.ble 1000000000 e && Nat.blt e 2000000000
def isCloT (e : Nat) : Bool := Nat.ble 2000000000 e
def fnOfT (e : Nat) : Nat := e - 1000000000
def cloF (e : Nat) : Nat := (e - 2000000000) / 100000
def cloG (e : Nat) : Nat := (e - 2000000000) % 100000
/-- The captured variable as the last parameter. -/
def lastCap (pt : List (Nat × List K)) (e : Nat) : Bool :=
  match pt.getLast? with
  | some (2, [.sl e']) => Nat.beq e' (1000000000 + cloG e)
  | _ => false
/-- Does a result hold a slice that may lie in an argument's memory? -/
def shares (P : Program) (rt : List (Bool × List (K × Nat))) : Bool :=
  rt.any fun p => p.2.any fun k => match k.1 with
    | .sl e => Nat.beq k.2 0 || (kinds P e).any isSl
    | _ => false
/-- Does an argument hand on memory of the call's own? -/
def lendsC : Cell → Bool
  | .ref _ _ => true
  | .sl (_ + 1) _ _ => true
  | _ => false
def lends (g : Nat → AV) : Operand → Bool
  | .tmp t => match g t with
    | .p _ cs => cs.any lendsC
    | .box _ _ | .pat _ _ | .pel _ _ _ _ | .tup _ => true
    | _ => false
  | _ => false
def bt (s : ByteArray) (i : Int) : Int := ((s.data.toList.getD i.toNat 0).toNat : Int)
def intsOf (k : IntKind) : List Value → Option (List Int)
  | [] => some []
  | .int k' n :: r => bif decide (k = k') then (intsOf k r).map (n :: ·) else none
  | _ :: _ => none
def strsOf : List Value → Option (List ByteArray)
  | [] => some []
  | .string s :: r => (strsOf r).map (s :: ·)
  | _ :: _ => none
/-- One of n places, by the index. -/
def brIdx (i : Int) (f : Nat → AV) : Nat → Nat → Br AV
  | 0, _ => .none
  | n + 1, j => .br (decide (i = (j : Int))) (.ret (f j)) (brIdx i f n (j + 1))
def bytesD (xs : List (List D)) : ByteArray := ⟨(xs.map fun r => UInt8.ofNat (gi r 0).toNat).toArray⟩
/-- One operation that writes nothing but its own slot. -/
def evQ (o : Oper) : Br AV :=
  match o.op with
  | .move x | .assign x => mv (opnd E g x)
  | .pick c a b => match plainV (opnd E g c) with
    | some (.bool t) => .br t (mv (opnd E g a)) (mv (opnd E g b))
    | _ => .none
  | .alloc e => match zeroCellsA E e with
    | some cs => .ret (.box true cs)
    | none => .none
  | .box _ x => match cellsOf (opnd E g x) with
    | some cs => .ret (.box true cs)
    | none => .none
  | .build t parts => bif !partsOk E.P t then .none else match zeroCellsA E t with
    | some z => match fillA E g (placeOfPart E t) z parts.toList with
      | some cs => .ret (.p true cs)
      | none => .none
    | none => .none
  | .load t a => loadV E g t (opnd E g a)
  | .nilCheck x => match opnd E g x with
    | .pat d o => .ret (.pat d o)
    | .pel d j i o => .ret (.pel d j i o)
    | .ro cs o => .ret (.ro cs o)
    | _ => .none
  | .fieldAddr s x f => match fieldP E s f, opnd E g x with
    | some fd, .pat d o => .ret (.pat d (o + fd.offset))
    | some fd, .pel d j i o => .ret (.pel d j i (o + fd.offset))
    | some fd, .ro cs o => .ret (.ro cs (o + fd.offset))
    | _, _ => .none
  | .field s x f => match fieldP E s f, opnd E g x with
    | some fd, .p true cs =>
      let n := sizeP E.P fd.type
      let cs' := takeAt cs fd.offset n
      bif Nat.beq cs'.length n && ((isAggP E.P fd.type || Nat.beq n 1) && (knownP E.P fd.type && Nat.blt 0 n)) then .ret (.p (isAggP E.P fd.type) cs') else .none
    | _, _ => .none
  | .indexAddr t x ix => match opnd E g x, plainV (opnd E g ix), E.P.underlying t with
    | .pat d o, some (.int _ i), some (.array n e) => bif Nat.blt 1 n && (Nat.ble n 8 && Nat.blt 0 (sizeP E.P e)) then brIdx i (fun j => .pat d (o + j * sizeP E.P e)) n 0 else .none
    | .ro cs 0, some (.int _ i), some (.array n e) => bif Nat.beq cs.length n && (Nat.blt 1 n && Nat.beq (sizeP E.P e) 1) then
        match cs with
        | .v (.string _) :: _ => match (allV cs).bind strsOf with
          | some ns => .br (decide (0 ≤ i) && decide (i < (n : Int))) (.ret (.ro [.v (.string (ns.getD i.toNat .empty))] 0)) .none
          | none => .none
        | .v (.int k _) :: _ => match (allV cs).bind (intsOf k) with
          | some ns => .br (decide (0 ≤ i) && decide (i < (n : Int))) (.ret (.ro [.v (.int k (ns.getD i.toNat 0))] 0)) .none
          | none => .none
        | _ => .none
      else .none
    | .p false [c], some (.int _ i), some (.slice e) =>
      bif !(Nat.beq (kinds E.P e).length (sizeP E.P e) && Nat.blt 0 (sizeP E.P e)) then .none else
      match c, res g c with
      | .ref d j, .sl (_ + 1) e' xs => bif Nat.beq e e' then .br (decide (0 ≤ i) && decide (i < (xs.length : Int))) (.ret (.pel d j i 0)) .none else .none
      | .sl 0 e' xs, _ => bif Nat.beq e e' then .br (decide (0 ≤ i) && decide (i < (xs.length : Int))) (.ret (.ro (rowCells (kinds E.P e) (xs.getD i.toNat []) 0) 0)) .none else .none
      | _, _ => .none
    | _, _, _ => .none
  | .index t x ix => match plainV (opnd E g x), plainV (opnd E g ix), E.P.underlying t with
    | some (.agg cs), some (.int _ i), some (.array n e) => bif Nat.beq cs.size n && (Nat.beq (sizeP E.P e) 1 && (knownP E.P e && !isAggP E.P e)) then
        match (cs[0]? : Option Value) with
        | some (.int k _) => match intsOf k cs.toList with
          | some ns => .br (decide (0 ≤ i) && decide (i < (n : Int))) (.ret (.p false [.v (.int k (ns.getD i.toNat 0))])) .none
          | none => .none
        | some (.string _) => match strsOf cs.toList with
          | some ns => .br (decide (0 ≤ i) && decide (i < (n : Int))) (.ret (.p false [.v (.string (ns.getD i.toNat .empty))])) .none
          | none => .none
        | _ => .none
      else .none
    | some (.string s), some (.int _ i), some .string => .br (decide (0 ≤ i) && decide (i < (s.size : Int))) (.ret (.p false [.v (.int .u8 (bt s i))])) .none
    | _, _, _ => .none
  | .slice t x lo hi none => match plainV (opnd E g x), E.P.underlying t with
    | some (.string s), some .string =>
      let h? : Option Int := match hi with
        | none => some (s.size : Int)
        | some y => match plainV (opnd E g y) with
          | some (.int _ n) => some n
          | _ => none
      let l? : Option Int := match lo with
        | none => some 0
        | some y => match plainV (opnd E g y) with
          | some (.int _ n) => some n
          | _ => none
      match l?, h? with
      | some l, some h => .br (decide (0 ≤ l) && decide (l ≤ h) && decide (h ≤ (s.size : Int))) (.ret (.p false [.v (.string (s.extract l.toNat h.toNat))])) .none
      | _, _ => .none
    | some (.slice none 0 0), some (.slice _) => evPlain E g o
    | _, _ => .none
  | .extract x i => match opnd E g x with
    | .tup ps => match ps[i]? with
      | some (a, cs) => .ret (.p a cs)
      | none => .none
    | _ => .none
  | .buildSlice t len parts => match E.P.underlying t with
    | some (.slice e) =>
      let m := sizeP E.P e
      let ks := kinds E.P e
      match zeroCellsA E e with
      | some z => bif Nat.beq ks.length m && decide (0 < m) && decide (len * m ≤ 16777216) && Nat.beq z.length m then
          match fillA E g (fun i => some (i * m, m)) ((List.replicate len z).flatten) parts.toList with
          | some cs => match packRows ks len cs with
            | some rs => .ret (.p false [.sl 1 e rs])
            | none => .none
          | none => .none
        else .none
      | none => .none
    | _ => .none
  | .makeSlice t l c => match E.P.underlying t, plainV (opnd E g l), plainV (opnd E g c) with
    | some (.slice e), some (.int .i64 l), some (.int .i64 c) => match E.P.info? e, zeroCellsA E e with
      | some i, some z =>
        let ks := kinds E.P e
        bif Nat.beq ks.length i.size && decide (0 < i.size) && decide (0 < i.bytes) then
        match packCells ks z with
        | some row => .br (decide (0 ≤ l) && decide (l ≤ c) && decide (c * (i.bytes : Int) ≤ 140737488355328)) (.ret (.p false [.sl 1 e (List.replicate l.toNat row)])) .none
        | none => .none
        else .none
      | _, _ => .none
    | _, _, _ => .none
  | .binOp op t x y _ => match op, plainV (opnd E g x), plainV (opnd E g y) with
    | .quo, some (.int k a), some (.int k' b) => bif decide (k = k') then .br (decide (b = 0)) .none (.ret (.p false [.v (.int k (k.wrap (a.tdiv b)))])) else .none
    | .rem, some (.int k a), some (.int k' b) => bif decide (k = k') then .br (decide (b = 0)) .none (.ret (.p false [.v (.int k (a.tmod b))])) else .none
    | .shl, some (.int k a), some (.int _ b) => .br (decide (b < 0)) .none (.ret (.p false [.v (.int k (k.wrap (a * 2 ^ min b.toNat k.bits)))]))
    | .shr, some (.int k a), some (.int _ b) => .br (decide (b < 0)) .none (.ret (.p false [.v (.int k (a.fdiv (2 ^ min b.toNat k.bits)))]))
    | .add, some (.string a), some (.string b) => .br (decide (a.size + b.size ≤ 140737488355328)) (.ret (.p false [.v (.string (a ++ b))])) .none
    | .eql, some (.agg a), some (.agg b) => match eqV E Op.maxDepth t (.agg a) (.agg b) with
      | some r => bif E.P.eqGuardType E.P.depth t then .none else .ret (.p false [.v (.bool r)])
      | none => .none
    | .neq, some (.agg a), some (.agg b) => match eqV E Op.maxDepth t (.agg a) (.agg b) with
      | some r => bif E.P.eqGuardType E.P.depth t then .none else .ret (.p false [.v (.bool !r)])
      | none => .none
    | _, some _, some _ => evPlain E g o
    | _, _, _ => .none
  | .call { callee := .builtin .len, args, argTypes } => match args.toList, argTypes.toList with
    | [x], [t] => match opnd E g x with
      | .p false [c] => match res g c, E.P.underlying t with
        | .sl _ e xs, some (.slice _) => bif Nat.blt 0 (kinds E.P e).length then .ret (.p false [.v (.int .i64 (xs.length : Int))]) else .none
        | .v _, _ => evPlain E g o
        | _, _ => .none
      | _ => .none
    | _, _ => .none
  | .call { callee := .value f, args, .. } => match opnd E g f with
    | .fn n => match E.spec n with
      | some sp => bif shares E.P sp.rt && args.toList.any (lends g) then .none else
        match packArgs E g sp.pt args.toList with
        | some ds => .opt (sp.G ds) fun t => .ret (mkR sp.rt t)
        | none => .none
      | none => .none
    | .p false [.sl 0 e _] => bif !Nat.beq (kinds E.P e).length 0 then .none else
      bif isFnT e then match E.spec (fnOfT e) with
        | some sp => bif shares E.P sp.rt && args.toList.any (lends g) then .none else
          match packArgs E g sp.pt args.toList with
          | some ds => .opt (sp.G ds) fun t => .ret (mkR sp.rt t)
          | none => .none
        | none => .none
      else bif isCloT e then match E.spec (cloF e) with
        | some sp => bif (!lastCap sp.pt e || !Nat.beq (kinds E.P (1000000000 + cloG e)).length 0) || shares E.P sp.rt && args.toList.any (lends g) then .none else
          match packArgs E g sp.pt.dropLast args.toList with
          | some ds => .opt (sp.G (ds ++ [.l []])) fun t => .ret (mkR sp.rt t)
          | none => .none
        | none => .none
      else .none
    | _ => .none
  | .call { callee := .builtin .max, .. } | .call { callee := .builtin .min, .. } => evPlain E g o
  | .call { callee := .builtin .cap, .. } => evPlain E g o
  | .unOp _ _ _ => evPlain E g o
  | .convert s t x => match opnd E g x, E.P.underlying s, E.P.underlying t with
    | .p false [c], some (.slice e), some .string => match res g c, E.P.underlying e with
      | .sl _ e' xs, some (.int .u8) => bif Nat.beq e e' && Nat.beq (sizeP E.P e) 1 then .ret (.p false [.v (.string (bytesD xs))]) else .none
      | _, _ => .none
    | _, _, _ => evPlain E g o
  | _ => .none
end
/-! ### States -/
def owner : AV → Bool
  | .p _ cs => cs.any isOwn
  | .tup ps => ps.any fun x => x.2.any isOwn
  | .box _ _ => true
  | _ => false
def forgetC (d : Nat) : Cell → Cell
  | .ref d' j => bif Nat.beq d d' then .u else .ref d' j
  | c => c
def forgetA (d : Nat) : AV → AV
  | .p a cs => .p a (cs.map (forgetC d))
  | .tup ps => .tup (ps.map fun x => (x.1, x.2.map (forgetC d)))
  | .box o cs => .box o (cs.map (forgetC d))
  | .ro cs o => .ro (cs.map (forgetC d)) o
  | .pat d' o => bif Nat.beq d d' then .u else .pat d' o
  | .pel d' j i o => bif Nat.beq d d' then .u else .pel d' j i o
  | av => av
def forget (d : Nat) : St → St
  | [] => []
  | (t, a) :: r => (t, forgetA d a) :: forget d r
def put (st : St) (d : Nat) (av : AV) : St := bif owner av || owner (get st d) then (d, forgetA d av) :: forget d st else (d, av) :: st
def putO (st : St) (d : Option Nat) (av : AV) : St :=
  match d with
  | some d => put st d av
  | none => st
/-! ### Operations that write -/
def isMutC : Cell → Bool
  | .sl (_ + 2) _ _ => true
  | _ => false
def clearC (cs : List Cell) (j : Nat) : List Cell := cs.set j .u
def setT : List (Bool × List Cell) → Nat → Cell → List (Bool × List Cell)
  | [], _, _ => []
  | (a, cs) :: ps, j, c => bif Nat.blt j cs.length then (a, cs.set j c) :: ps else (a, cs) :: setT ps (j - cs.length) c
def clearA : AV → Nat → AV
  | .p a cs, j => .p a (clearC cs j)
  | .tup ps, j => .tup (setT ps j .u)
  | .box o cs, j => .box o (clearC cs j)
  | av, _ => av
def forgetRC (d j : Nat) : Cell → Cell
  | .ref d' j' => bif Nat.beq d d' && Nat.beq j j' then .u else .ref d' j'
  | c => c
def forgetRA (d j : Nat) : AV → AV
  | .p a cs => .p a (cs.map (forgetRC d j))
  | .tup ps => .tup (ps.map fun x => (x.1, x.2.map (forgetRC d j)))
  | .box o cs => .box o (cs.map (forgetRC d j))
  | .ro cs o => .ro (cs.map (forgetRC d j)) o
  | .pel d' j' i o => bif Nat.beq d d' && Nat.beq j j' then .u else .pel d' j' i o
  | av => av
def forgetR (d j : Nat) : St → St
  | [] => []
  | (t, a) :: r => (t, forgetRA d j a) :: forgetR d j r
/-- The slice at cell j of slot d is taken away. -/
def takeOut (st : St) (d j : Nat) : St := let a := get st d; (d, clearA (forgetRA d j a) j) :: forgetR d j st
section
variable (E : Env)
def setRow (m : Nat) (r : List D) (o n : Nat) (ds : List D) : List D := (List.range m).map fun q => bif Nat.ble o q && Nat.blt q (o + n) then ds.getD (q - o) .j else r.getD q .j
/-- Cells o .. o + n - 1 of row i are written. -/
def setc (xs : List (List D)) (i : Int) (m o n : Nat) (ds : List D) : List (List D) := xs.set i.toNat (setRow m (xs.getD i.toNat []) o n ds)
def setAt (av : AV) (j : Nat) (c : Cell) : AV :=
  match av with
  | .p a cs => .p a (cs.set j c)
  | .box w cs => .box w (cs.set j c)
  | .tup ps => .tup (setT ps j c)
  | av => av
def setSl (st : St) (d j : Nat) (c : Cell) : St := (d, setAt (get st d) j c) :: st
/-- Places that f tells are forgotten. -/
def fgC (f : Nat → Nat → Bool) : Cell → Cell
  | .ref d j => bif f d j then .u else .ref d j
  | c => c
def fgA (f : Nat → Nat → Bool) : AV → AV
  | .p a cs => .p a (cs.map (fgC f))
  | .tup ps => .tup (ps.map fun x => (x.1, x.2.map (fgC f)))
  | .box o cs => .box o (cs.map (fgC f))
  | .ro cs o => .ro (cs.map (fgC f)) o
  | .pel d j i o => bif f d j then .u else .pel d j i o
  | av => av
def fgS (f : Nat → Nat → Bool) : St → St
  | [] => []
  | (t, a) :: r => (t, fgA f a) :: fgS f r
def noRef : Cell → Cell
  | .ref _ _ => .u
  | c => c
def inPl (t d o n d' j : Nat) : Bool := Nat.beq d' t || (Nat.beq d' d && (Nat.ble o j && Nat.blt j (o + n)))
/-- A slice of the call's own that cell i of slot t refers to comes to lie there. -/
def onePl (d0 j0 d1 j1 d j : Nat) : Bool := (Nat.beq d d0 && Nat.beq j j0) || (Nat.beq d d1 && Nat.beq j j1)
def pull (st : St) (t i : Nat) (c : Cell) : St :=
  match c with
  | .ref d' j' => match get st t, cellAt (get st d') j', cellAt (get st t) i with
    | .p _ _, .sl 1 e xs, .ref d2 j2 => bif !Nat.beq d' t && (Nat.beq d' d2 && Nat.beq j' j2) then
        let st1 := fgS (onePl d' j' t i) st
        (t, setAt (get st1 t) i (.sl 1 e xs)) :: (d', setAt (get st1 d') j' .u) :: st1
      else st
    | _, _, _ => st
  | _ => st
def pullAll (st : St) (t : Nat) : List Cell → Nat → St
  | [], _ => st
  | c :: r, i => pullAll (pull st t i c) t r (i + 1)
def cellsP : AV → List Cell
  | .p _ cs => cs
  | _ => []
/-- A value with slices of the call's own is moved into a variable. -/
def moveStore (st0 : St) (d o n : Nat) (x : Operand) : Br St :=
  match x with
  | .tmp t =>
    let st := pullAll st0 t (cellsP (get st0 t)) 0
    match get st t, get st d with
    | .p _ cs, .box w bs => bif (!Nat.beq t d && !cs.any isMutC) && (Nat.beq cs.length n && decide (o + n ≤ bs.length) && (!(takeAt bs o n).any isOwn && Nat.blt 0 n)) then .ret ((d, .box w (setAll (bs.map (fgC (inPl t d o n))) o (cs.map noRef))) :: (t, .u) :: fgS (inPl t d o n) st) else .none
    | _, _ => .none
  | _ => .none
def storeOp (st : St) (t : TypeId) (a x : Operand) : Br St :=
  let n := sizeP E.P t
  match opnd E (get st) a, cellsOf (opnd E (get st) x) with
  | .pat d o, some cs => match get st d with
    | .box w bs => bif Nat.beq cs.length n && decide (o + n ≤ bs.length) && (!(takeAt bs o n).any isOwn && Nat.blt 0 n) then
        bif cs.any lendsC then moveStore st d o n x else .ret ((d, .box w (setAll bs o cs)) :: st)
      else .none
    | _ => .none
  | .pel d j i o, some cs => match cellAt (get st d) j with
    | .sl (w + 1) e xs =>
      let ks := kinds E.P e
      bif Nat.beq cs.length n && decide (o + n ≤ ks.length) && (Nat.beq ks.length (sizeP E.P e) && Nat.blt 0 n) then
        match packCells ((ks.drop o).take n) cs with
        | some ds => .ret (setSl st d j (.sl (w + 1) e (setc xs i ks.length o n ds)))
        | none => .none
      else .none
    | _ => .none
  | _, _ => .none
def zeroOk (e : TypeId) (n : Nat) : Bool :=
  match E.P.info? e with
  | some i => match i.zero with
    | some z => Nat.beq z.cells.size n
    | none => false
  | none => false
def appendOp (st : St) (dst : Option Nat) (t : TypeId) (s x : Operand) : Br St :=
  match E.P.underlying t with
  | some (.slice e) => match opnd E (get st) s, opnd E (get st) x, E.P.info? e with
    | .p false [c], .p false [y], some i =>
      let ys? : Option (List (List D)) := match res (get st) y with
        | .sl _ e' ys => bif Nat.beq e e' then some ys else none
        | .v (.slice none 0 0) => some []
        | _ => none
      let ks := kinds E.P e
      bif Nat.beq ks.length i.size && (decide (0 < i.size) && zeroOk E e i.size) then
      match ys? with
      | some ys => match c with
        | .v (.slice none 0 0) => .br (decide (ys.length * i.bytes ≤ 140737488355328) && decide (ys.length ≤ 4611686018427387904)) (.ret (putO st dst (.p false [.sl 1 e ys]))) .none
        | .ref d j => match cellAt (get st d) j with
          | .sl 1 e' xs => bif Nat.beq e e' then .br (decide ((xs.length + ys.length) * i.bytes ≤ 140737488355328) && decide (xs.length + ys.length ≤ 4611686018427387904)) (.ret (putO (takeOut st d j) dst (.p false [.sl 1 e (xs ++ ys)]))) .none else .none
          | _ => .none
        | _ => .none
      | none => .none
      else .none
    | _, _, _ => .none
  | _ => .none
/-- append(nil, make([]T, n)...). -/
def appendMake (st : St) (dst : Option Nat) (t t' : TypeId) (s x : Operand) : Br St :=
  match E.P.underlying t, E.P.underlying t', plainV (opnd E (get st) s), plainV (opnd E (get st) x) with
  | some (.slice e), some (.int _), some (.slice none 0 0), some (.int _ n) => match E.P.info? e, zeroCellsA E e with
    | some i, some z =>
      let ks := kinds E.P e
      bif Nat.beq ks.length i.size && decide (0 < i.size) && decide (0 < i.bytes) then
      match packCells ks z with
      | some row => .br (decide (0 < n) && decide (n * (i.bytes : Int) ≤ 140737488355328)) (.ret (putO st dst (.p false [.sl 1 e (List.replicate n.toNat row)]))) .none
      | none => .none
      else .none
    | _, _ => .none
  | _, _, _, _ => .none
/-- s[:h] of a slice of the call's own. -/
def sliceOwn (st : St) (dst : Option Nat) (t : TypeId) (d j : Nat) (hi : Operand) : Br St :=
  match E.P.underlying t, cellAt (get st d) j, plainV (opnd E (get st) hi) with
  | some (.slice e), .sl 1 e' xs, some (.int _ h) => bif Nat.beq e e' && (E.P.info? e).isSome then .br (decide (0 ≤ h) && decide (h ≤ (xs.length : Int))) (.ret (putO (takeOut st d j) dst (.p false [.sl 1 e (xs.take h.toNat)]))) .none else .none
  | _, _, _ => .none
/-- A call that writes by some of its parameters. -/
def mutKinds (P : Program) (pt : List (Nat × List K)) : Bool := pt.all fun p => !Nat.beq p.1 3 || match p.2 with
  | [.sl e] => !(kinds P e).any isSl
  | _ => false
def packMut (g : Nat → AV) (pt : Nat × List K) (a : AV) : Option (List D) :=
  match pt.1, a with
  | 3, .p false [.ref d j] => match cellAt (g d) j, pt.2 with
    | .sl (_ + 1) e xs, [.sl e'] => bif Nat.beq e e' then some [.l xs] else none
    | _, _ => none
  | _, a => packArg E g pt a
def packMuts (g : Nat → AV) : List (Nat × List K) → List Operand → Option (List D)
  | [], [] => some []
  | p :: ps, x :: xs => match (bif Nat.beq p.2.length 0 then none else packMut E g p (opnd E g x)), packMuts g ps xs with
    | some d, some ds => some (d ++ ds)
    | _, _ => none
  | _, _ => none
def isMut (sp : Spec) : Bool := sp.pt.any fun p => Nat.beq p.1 3
/-- What was written comes back behind the result. -/
def outs (g : Nat → AV) : List (Nat × List K) → List Operand → List D → Nat → St → Option St
  | p :: ps, x :: xs, t, i, st =>
    bif Nat.beq p.1 3 then match opnd E g x with
      | .p false [.ref d j] => match cellAt (get st d) j with
        | .sl (w + 1) e _ => outs g ps xs t (i + 1) (setSl st d j (.sl (w + 1) e (t.getD i .j).rows))
        | _ => none
      | _ => none
    else outs g ps xs t i st
  | [], [], _, _, st => some st
  | _, _, _, _, _ => none
def countR (rt : List (Bool × List (K × Nat))) : Nat := (rt.map (·.2.length)).sum
def oneMut : List (Nat × List K) → Bool
  | [] => true
  | p :: ps => bif Nat.beq p.1 3 then !ps.any fun q => Nat.beq q.1 3 else oneMut ps
/-- Nothing of the call's own is lent beside the slice that is written. -/
def restLends (g : Nat → AV) : List (Nat × List K) → List Operand → Bool
  | p :: ps, x :: xs => (Nat.beq p.1 3 || !lends g x) && restLends g ps xs
  | _, _ => true
def mutCall (st : St) (dst : Option Nat) (sp : Spec) (args : List Operand) : Br St :=
  bif (shares E.P sp.rt || (!oneMut sp.pt || !mutKinds E.P sp.pt)) || !restLends (get st) sp.pt args then .none else
  match packMuts E (get st) sp.pt args with
  | some ds => .opt (sp.G ds) fun t => match outs E (get st) sp.pt args t (countR sp.rt) st with
    | some st' => .ret (putO st' dst (mkR sp.rt t))
    | none => .none
  | none => .none
def specOf (st : St) (f : Operand) : Option Spec :=
  match opnd E (get st) f with
  | .fn n => E.spec n
  | _ => none
/-- One operation. -/
def evOp (st : St) (o : Oper) : Br St :=
  let q : Br St := (evQ E (get st) o).bind fun av => .ret (putO st o.dst av)
  match o.op with
  | .store t a x => match o.dst with
    | none => storeOp E st t a x
    | some _ => .none
  | .assign (.tmp t) => match get st t with
    | .p a cs => bif cs.any isOwn then bif cs.any isMutC then .none else .ret (putO ((t, .u) :: forget t st) o.dst (.p a (cs.map (forgetC t)))) else q
    | _ => q
  | .call { callee := .builtin .append, args, argTypes } => match args.toList, argTypes.toList with
    | [s, x], [t, t'] => bif Nat.beq t t' then appendOp E st o.dst t s x else appendMake E st o.dst t t' s x
    | _, _ => .none
  | .slice t x none (some hi) none => match opnd E (get st) x with
    | .p false [.ref d j] => sliceOwn E st o.dst t d j hi
    | _ => q
  | .call { callee := .value f, args, .. } => match specOf E st f with
    | some sp => bif isMut sp then mutCall E st o.dst sp args.toList else q
    | none => match opnd E (get st) f with
      | .p _ _ => q
      | _ => .none
  | _ => q
def dstOf (ops : List Oper) (j : Nat) : Option Nat := match ops[j]? with
  | some o => o.dst
  | none => none
def evOps {R : Type} (all : List Oper) : List Oper → St → (St → Option R) → Option R
  | [], st, k => k st
  | o :: os, st, k =>
    match o.guard with
    | none => (evOp E st o).k fun st' => evOps all os st' k
    | some (j, want) => match dstOf all j with
      | some d => match get st d with
        | .p false [.v (.bool b)] =>
          bif b then (bif want then (evOp E ((d, .p false [.v (.bool true)]) :: st) o).k fun st' => evOps all os st' k else evOps all os (putO ((d, .p false [.v (.bool true)]) :: st) o.dst (.tup [])) k)
          else (bif want then evOps all os (putO ((d, .p false [.v (.bool false)]) :: st) o.dst (.tup [])) k else (evOp E ((d, .p false [.v (.bool false)]) :: st) o).k fun st' => evOps all os st' k)
        | .tup [] => evOps all os (putO st o.dst (.tup [])) k
        | _ => none
      | none => none
/-! ### A region that draws its order -/
def befs : List Oper → List (List Nat) → List (List Nat)
  | [], acc => acc
  | o :: os, acc => befs os (acc ++ [(o.after.toList.filter (Region.binds .any)).flatMap fun e => e.on :: acc.getD e.on []])
def hide (st : St) : List Oper → St
  | [] => st
  | o :: os => hide (match o.dst with
    | some d => (d, .u) :: forget d st
    | none => st) os
/-- The slot that an operation tells anew: its own, or that of the variable that it stores into. -/
def vdst (o : Oper) : Option Nat :=
  match o.dst with
  | some d => some d
  | none => match o.op with
    | .store _ (.tmp d) _ => some d
    | _ => none
def hideT (st : St) : List Oper → St
  | [] => st
  | o :: os => match o.dst, vdst o with
    | none, some d => (d, .u) :: hideT st os
    | _, _ => hideT st os
def noRefC (d : Nat) : Cell → Bool
  | .ref d' _ => !Nat.beq d d'
  | _ => true
def noRefA (d : Nat) : AV → Bool
  | .p _ cs => cs.all (noRefC d)
  | .tup ps => ps.all fun x => x.2.all (noRefC d)
  | .box _ cs => cs.all (noRefC d)
  | .ro cs _ => cs.all (noRefC d)
  | .pat d' _ => !Nat.beq d d'
  | .pel d' _ _ _ => !Nat.beq d d'
  | _ => true
def hasDst (ops : List Oper) (i : Nat) : Bool := match ops[i]? with
  | some o => o.dst.isSome
  | none => false
def allRs : List (Nat × Nat × AV) → St → St
  | [], st => st
  | (_, d, a) :: r, st => (d, a) :: allRs r st
/-- Of the values that were reckoned those of the operations that p tells. -/
def vis (p : Nat → Bool) : List (Nat × Nat × AV) → St → St
  | [], st => st
  | (i, d, a) :: r, st => bif p i then (d, a) :: vis p r st else vis p r st
def findR : List (Nat × Nat × AV) → Nat → Option AV
  | [], _ => none
  | (i, _, a) :: r, j => bif Nat.beq i j then some a else findR r j
def setR : List (Nat × Nat × AV) → Nat → AV → List (Nat × Nat × AV)
  | [], _, _ => []
  | (i, d, a) :: r, j, v => bif Nat.beq i j then (i, d, v) :: r else (i, d, a) :: setR r j v
def isIn (l : List Nat) (j : Nat) : Bool := l.any (Nat.beq j)
def lit1 (b : Bool) : AV := .p false [.v (.bool b)]
def ownersOk (bs : List (List Nat)) (ops : List Oper) (rs : List (Nat × Nat × AV)) : Bool := rs.all fun e => !(owner e.2.2 && hasDst ops e.1) || (noRefA e.2.1 e.2.2 && rs.all fun e' => Nat.beq e.1 e'.1 || (isIn (bs.getD e'.1 []) e.1 || noRefA e.2.1 e'.2.2))
/-- One entry is a variable made, the other what is stored there: whoever comes behind the first comes behind the second or ahead of it. -/
def isBoxB : AV → Bool
  | .box _ _ => true
  | _ => false
def dupOk (bs : List (List Nat)) (ops : List Oper) (c : Nat) (e e' : Nat × Nat × AV) : Bool :=
  Nat.blt e.1 e'.1 && (hasDst ops e.1 && !hasDst ops e'.1) && (isBoxB e.2.2 && isBoxB e'.2.2) && isIn (bs.getD e'.1 []) e.1 && (List.range c).all fun m => Nat.beq m e'.1 || (!isIn (bs.getD m []) e.1 || (isIn (bs.getD m []) e'.1 || isIn (bs.getD e'.1 []) m))
def distOk (bs : List (List Nat)) (ops : List Oper) (c : Nat) (rs : List (Nat × Nat × AV)) : Bool := rs.all fun e => rs.all fun e' => Nat.beq e.1 e'.1 || (!Nat.beq e.2.1 e'.2.1 || (dupOk bs ops c e e' || dupOk bs ops c e' e))
/-- The variable of slot d, as it was ahead of the region or is made in it. -/
def boxAt (st0 : St) (g : Nat → AV) (d : Nat) : AV :=
  match get st0 d with
  | .box w bs => .box w bs
  | _ => g d
/-- A store into a variable of the call's own that the region holds in a slot. -/
def drawStore (st0 : St) (g : Nat → AV) (o : Oper) : Option (Nat × AV) :=
  match o.guard, o.op with
  | none, .store t (.tmp d) x => match boxAt st0 g d, cellsOf (opnd E g x) with
    | .box w bs, some cs =>
      let n := sizeP E.P t
      bif Nat.beq cs.length n && decide (0 + n ≤ bs.length) && (!(takeAt bs 0 n).any isOwn && Nat.blt 0 n) && !cs.any lendsC then some (d, .box w (setAll bs 0 cs)) else none
    | _, _ => none
  | _, _ => none
/-- A slice of the call's own, as one that is only read. -/
def lentC : Cell → Cell
  | .sl _ e xs => .sl 0 e xs
  | .ref _ _ => .u
  | c => c
def isBoxA : AV → Bool
  | .box true _ => true
  | _ => false
def lentA : AV → AV
  | .p a cs => bif cs.any isOwn then .p a (cs.map lentC) else .p a cs
  | av => av
def evDraw {R : Type} (bs : List (List Nat)) (st0 st : St) : List Oper → Nat → List (Nat × Nat × AV) → (List (Nat × Nat × AV) → Option R) → Option R
  | [], _, rs, k => k rs
  | o :: os, i, rs, k =>
    let bef := bs.getD i []
    match o.dst with
    | none => match drawStore E st0 (get (vis (isIn bef) rs st)) o with
      | some (d, av) => evDraw bs st0 st os (i + 1) ((i, d, av) :: rs) k
      | none => none
    | some d =>
    match o.guard with
    | none => (evQ E (get (vis (isIn bef) rs st)) o).k fun av => bif owner (lentA av) && !isBoxA (lentA av) then none else evDraw bs st0 st os (i + 1) ((i, d, lentA av) :: rs) k
    | some (j, want) => bif !isIn bef j then none else match findR rs j with
      | some (.p false [.v (.bool b)]) =>
        bif b then (bif want then (evQ E (get (vis (isIn bef) (setR rs j (lit1 true)) st)) o).k fun av => bif owner (lentA av) && !isBoxA (lentA av) then none else evDraw bs st0 st os (i + 1) ((i, d, lentA av) :: setR rs j (lit1 true)) k else evDraw bs st0 st os (i + 1) ((i, d, .tup []) :: setR rs j (lit1 true)) k)
        else (bif want then evDraw bs st0 st os (i + 1) ((i, d, .tup []) :: setR rs j (lit1 false)) k else (evQ E (get (vis (isIn bef) (setR rs j (lit1 false)) st)) o).k fun av => bif owner (lentA av) && !isBoxA (lentA av) then none else evDraw bs st0 st os (i + 1) ((i, d, lentA av) :: setR rs j (lit1 false)) k)
      | some (.tup []) => evDraw bs st0 st os (i + 1) ((i, d, .tup []) :: rs) k
      | _ => none
/-- The operations at the end that come behind all others in every order. -/
def covers (bs : List (List Nat)) (i : Nat) : Bool := (List.range i).all fun j => isIn (bs.getD i []) j
def tailFrom (bs : List (List Nat)) : Nat → Nat
  | 0 => 0
  | n + 1 => bif covers bs n then tailFrom bs n else n + 1
/-- The orders are as this evaluator reads them: everything that an operation comes behind has a smaller number. -/
def drawOk (ops : List Oper) (bs : List (List Nat)) : Bool :=
  (List.range ops.length).all fun i => (bs.getD i []).all fun j => Nat.blt j i
def evRegion {R : Type} (ops : List Oper) (st : St) (k : St → Option R) : Option R :=
  let bs := befs ops []
  let c := tailFrom bs ops.length
  bif !drawOk ops bs then none else
  let st0 := hide st (ops.take c)
  evDraw E bs st0 (hideT st0 (ops.take c)) (ops.take c) 0 [] fun rs => bif ownersOk bs ops rs && distOk bs ops c rs then evOps E ops (ops.drop c) (allRs rs st0) k else none
/-! ### Code -/
inductive Ex where
  | normal
  | exit (id : Nat)
  | ret
def packKeepC (k : K × Nat) (c : Cell) : Option D :=
  match k.1, c with
  | .sl e, .sl o e' xs => bif Nat.beq e e' && Nat.beq o k.2 then some (.l xs) else none
  | .sl e, .v (.slice none 0 0) => bif Nat.ble k.2 1 && Nat.blt e 1000000000 then some (.l []) else none
  | k, c => packCell k c
def packKeepCs : List (K × Nat) → List Cell → Option (List D)
  | [], [] => some []
  | k :: ks, c :: cs => match packKeepC k c, packKeepCs ks cs with
    | some d, some ds => some (d :: ds)
    | _, _ => none
  | _, _ => none
def packKeep1 (f : Nat) (ks : List (K × Nat)) (a : AV) : Option (List D) :=
  match f, a with
  | 0, .p false cs => packKeepCs ks cs
  | 1, .p true cs => packKeepCs ks cs
  | 2, .ro cs 0 => packKeepCs ks cs
  | 5, .box true cs => packKeepCs ks cs
  | 6, .box false cs => packKeepCs ks cs
  | f + 10, .fn n => bif Nat.beq n f then packKeepCs ks [] else none
  | _, _ => none
def packKeep (st : St) : List (Nat × Nat × List (K × Nat)) → Option (List D)
  | [] => some []
  | (t, f, ks) :: r => match packKeep1 f ks (get st t), packKeep st r with
    | some d, some ds => some (d ++ ds)
    | _, _ => none
def mkForm (f : Nat) (cs : List Cell) : AV :=
  match f with
  | 0 => .p false cs
  | 1 => .p true cs
  | 2 => .ro cs 0
  | 5 => .box true cs
  | 6 => .box false cs
  | f + 10 => .fn f
  | _ => .u
def mkKeep : List (Nat × Nat × List (K × Nat)) → List D → Nat → St
  | [], _, _ => []
  | (t, f, ks) :: r, ds, i => (t, mkForm f (cellsR ks ds i)) :: mkKeep r ds (i + ks.length)
def endCode (lp : Loop) (c : Nat) (st : St) : Option (List D) :=
  bif lp.codes.any (Nat.beq c) then (packKeep st lp.keep).map (.i c :: ·) else none
/-- What follows a round. -/
def kLoop (lp : Loop) (cur : Nat) (again : List D → Option (List D)) : Ex → St → Option (List D)
  | .normal, st => match packKeep st lp.keep with
    | some ds => again ds
    | none => none
  | .exit id, st => bif Nat.beq id cur then endCode lp 0 st else endCode lp (id + 2) st
  | .ret, st => endCode lp 1 st
def slotsApart : List (Nat × Nat × List (K × Nat)) → Bool
  | [] => true
  | x :: r => !(r.any fun y => Nat.beq x.1 y.1) && slotsApart r
def keepOk (P : Program) (keep : List (Nat × Nat × List (K × Nat))) : Bool :=
  slotsApart keep && keep.all fun x => x.2.2.all fun k => (!Nat.beq x.2.1 2 || Nat.beq k.2 0) && match k.1 with
    | .sl e => Nat.blt 0 (kinds P e).length
    | _ => true
def okC (nt : Nat) : Code → Bool
  | .region _ ops _ => ops.toList.all fun o => match o.dst with
    | some d => Nat.blt d nt
    | none => true
  | .seq a b => okC nt a && okC nt b
  | .cond _ a b => okC nt a && okC nt b
  | .block _ c => okC nt c
  | .loop c => okC nt c
  | _ => true
def exOf : Nat → Ex
  | 0 => .normal
  | 1 => .ret
  | n + 2 => .exit n
def dispatch {R : Type} : List Nat → Int → (Nat → Option R) → Option R
  | [], _, _ => none
  | [c], _, f => f c
  | c :: cs, n, f => bif decide (n = (c : Int)) then f c else dispatch cs n f
def lit (st : St) (c : Operand) (b : Bool) : St :=
  match c with
  | .tmp t => (t, .p false [.v (.bool b)]) :: st
  | _ => st
def isLoop : Code → Bool
  | .loop _ => true
  | _ => false
def evC {R : Type} : Code → St → (Ex → St → Option R) → Option R
  | .skip, st, k => k .normal st
  | .region _ ops draw, st, k => bif draw then evRegion E ops.toList st (k .normal) else evOps E ops.toList ops.toList st (k .normal)
  | .seq a b, st, k => evC a st fun e st' => match e with
    | .normal => evC b st' k
    | e => k e st'
  | .cond c a b, st, k => match plainV (opnd E (get st) c) with
    | some (.bool t) => bif t then evC a (lit st c true) k else evC b (lit st c false) k
    | _ => none
  | .block id c, st, k =>
    bif isLoop c then
      match E.loop id with
      | some lp => bif !keepOk E.P lp.keep then none else match packKeep st lp.keep with
        | some ds => (lp.G E.fuel ds).bind fun t => dispatch lp.codes (t.getD 0 .j).int fun code => k (exOf code) (mkKeep lp.keep t 1)
        | none => none
      | none => none
    else evC c st fun e st' => match e with
      | .exit i => bif Nat.beq i id then k .normal st' else k (.exit i) st'
      | e => k e st'
  | .exit id, st, k => k (.exit id) st
  | .ret, st, k => k .ret st
  | _, _, _ => none
/-- The loops of a piece of code, each with the block around it. -/
def loopsOf : Code → List (Nat × Code)
  | .seq a b => loopsOf a ++ loopsOf b
  | .cond _ a b => loopsOf a ++ loopsOf b
  | .block id (.loop c) => (id, c) :: loopsOf c
  | .block _ c => loopsOf c
  | _ => []
def LoopOk (x : Nat × Code) : Prop := ∀ lp, E.loop x.1 = some lp → (∀ k ds, evC E x.2 (mkKeep lp.keep ds 0) (kLoop lp x.1 (lp.G k)) = lp.G (k + 1) ds) ∧ ∀ ds, lp.G 0 ds = none
/-! ### A function -/
def initSt : List (Nat × List K) → List D → Nat → Nat → St
  | [], _, _, _ => []
  | (f, ks) :: r, ds, i, t => (t, match f with
    | 0 => .p false (cellsR (ks.map (·, 0)) ds i)
    | 1 => .p true (cellsR (ks.map (·, 0)) ds i)
    | 2 => .ro (cellsR (ks.map (·, 0)) ds i) 0
    | 3 => .p false (cellsR (ks.map (·, 2)) ds i)
    | 7 => .p false [.v (.slice none 0 0)]
    | f + 10 => .fn f
    | _ => .u) :: initSt r ds (i + ks.length) (t + 1)
/-- The cells of a result variable, and where they lie. -/
def resCells (st : St) (a : Bool) : ResultVar → Option (List Cell)
  | .tmp t => match get st t with
    | .p a' cs => bif a == a' then some (refsOf t cs 0) else none
    | _ => none
  | .cell t ty => match get st t with
    | .box _ cs => bif Nat.beq cs.length (sizeP E.P ty) && (knownP E.P ty && ((a == isAggP E.P ty) && (Nat.blt 0 cs.length && (a || Nat.beq cs.length 1)))) then some (refsOf t cs 0) else none
    | _ => none
def packResC (st : St) (k : K × Nat) (c : Cell) : Option D :=
  match k.1, res (get st) c with
  | .sl e, .sl o e' xs => bif Nat.beq e e' && (Nat.beq o k.2 || (Nat.beq o 1 && Nat.beq k.2 0)) then some (.l xs) else none
  | .sl e, .v (.slice none 0 0) => bif Nat.blt e 1000000000 then some (.l []) else none
  | k, c => packCell k c
def packResCs (st : St) : List (K × Nat) → List Cell → Option (List D)
  | [], [] => some []
  | k :: ks, c :: cs => match packResC st k c, packResCs st ks cs with
    | some d, some ds => some (d :: ds)
    | _, _ => none
  | _, _ => none
def packRes (st : St) : List (Bool × List (K × Nat)) → List ResultVar → Option (List D)
  | [], [] => some []
  | (a, ks) :: ps, r :: rs => match resCells E st a r with
    | some cs => match packResCs st ks cs, packRes st ps rs with
      | some d, some ds => some (d ++ ds)
      | _, _ => none
    | none => none
  | _, _ => none
def refs : List Cell → List (Nat × Nat)
  | [] => []
  | .ref d j :: cs => (d, j) :: refs cs
  | _ :: cs => refs cs
def distinctB : List (Nat × Nat) → Bool
  | [] => true
  | x :: xs => !(xs.any fun y => Nat.beq x.1 y.1 && Nat.beq x.2 y.2) && distinctB xs
def allRefs (st : St) : List (Bool × List (K × Nat)) → List ResultVar → List (Nat × Nat)
  | (a, _) :: ps, r :: rs => (match resCells E st a r with
    | some cs => refs cs
    | none => []) ++ allRefs st ps rs
  | _, _ => []
def packOuts (st : St) : List (Nat × List K) → Nat → Option (List D)
  | [], _ => some []
  | (f, ks) :: r, t => bif Nat.beq f 3 then
      match get st t, ks, packOuts st r (t + 1) with
      | .p false [.sl 2 e xs], [.sl e'], some ds => bif Nat.beq e e' then some (.l xs :: ds) else none
      | _, _, _ => none
    else packOuts st r (t + 1)
def kFn (fn : Func) (sp : Spec) : Ex → St → Option (List D)
  | .exit _, _ => none
  | _, st => bif distinctB (allRefs E st sp.rt fn.results.toList) then
      match packRes E st sp.rt fn.results.toList, packOuts st sp.pt 0 with
      | some a, some b => some (a ++ b)
      | _, _ => none
    else none
def evFn (fn : Func) (sp : Spec) (ds : List D) : Option (List D) :=
  match fn.body with
  | some c => evC E c (initSt sp.pt ds 0 0) (kFn E fn sp)
  | none => none
end
end Go.Proofs.YtpggnjmmpkdkjaaGreat.Ev
