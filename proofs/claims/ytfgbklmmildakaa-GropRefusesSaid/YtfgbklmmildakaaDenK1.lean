/- Den: the evaluator and what is shown of it, parts A to P. -/
import Derived.Orders
import Derived.Laws.BitsLemmas
import Derived.ArgAppend
import Derived.Laws.AppendOwn
import Derived.Laws.Rows
import Derived.Laws.Slices
import Derived.Laws.BytesString
import Derived.Laws.Strings
import Derived.Laws.Pointers
import Derived.Laws.Small
import Derived.Laws.StructEq
import Derived.Lib.Strings
import Derived.Lib.SmallJoins
import Derived.Laws.Tables
import Derived.IntWalk
import Derived.Lib.ConvBytes
import Derived.Laws.BytesArg
set_option linter.unusedSimpArgs false
set_option linter.unusedVariables false
/- Den, part A: a deterministic evaluator of the model's code on pure values. Definitions alone. -/
namespace Go.Den

/-- Pure values. A struct is a flat list of leaves, as the machine lays it. -/
inductive PV where
  | undef
  | int (k : IntKind) (n : Int)
  | bool (b : Bool)
  | str (s : List UInt8)
  | nils
  | sl (sz : Nat) (xs : List (List PV))
  | h (d : Nat)
  | nilp
  | pb (d off : Nat)
  | pe (d i off : Nat)
  | pc (cs : List PV)
  | nilf
  | fn (f : FuncId) (caps : List PV)
  | agg (cs : List PV)
  | tup (vs : List PV)
  | nr (e : TypeId) (sz : Nat) (xs : List (List PV))
  | nb (cs : List PV)
  | vw (d len : Nat)
  deriving Inhabited

/-- What an id stands for: a row, or a variable in memory. -/
inductive Cont where
  | row (e : TypeId) (sz : Nat) (xs : List (List PV))
  | box (cs : List PV)
  deriving Inhabited
/-- own: it may be written and appended to. -/
structure Ent where
  own : Bool
  c : Cont
  deriving Inhabited

def get {α : Type} : List (Nat × α) → Nat → Option α
  | [], _ => none
  | (k, v) :: r, i => if k == i then some v else get r i

structure St where
  sl : List (Nat × PV)
  mem : List (Nat × Option Ent)
  ep : Nat
  deriving Inhabited

def St.slot (S : St) (t : Nat) : Option PV := get S.sl t
def atM (m : List (Nat × Option Ent)) (d : Nat) : Option Ent :=
  match get m d with
  | some e => e
  | none => none
def St.at (S : St) (d : Nat) : Option Ent := atM S.mem d

/-- Reads of ids: what is there; what is there, and is own. -/
inductive RM (α : Type) : Type where
  | ret (a : α)
  | fail
  | rdc (d : Nat) (k : Cont → RM α)
  | own (d : Nat) (k : Cont → RM α)

def RM.bind {α β : Type} : RM α → (α → RM β) → RM β
  | .ret a, f => f a
  | .fail, _ => .fail
  | .rdc d k, f => .rdc d fun e => (k e).bind f
  | .own d k, f => .own d fun e => (k e).bind f

/-- A footprint: contents read, own rows read. -/
def RM.run {α : Type} : RM α → (Nat → Option Ent) → Option (α × List Nat × List Nat)
  | .ret a, _ => some (a, [], [])
  | .fail, _ => none
  | .rdc d k, m =>
    match m d with
    | some e =>
      match (k e.c).run m with
      | some (a, l, o) => some (a, d :: l, o)
      | none => none
    | none => none
  | .own d k, m =>
    match m d with
    | some e =>
      match e.own with
      | true =>
        match (k e.c).run m with
        | some (a, l, o) => some (a, l, d :: o)
        | none => none
      | false => none
    | none => none

def RM.of {α : Type} : Option α → RM α
  | some a => .ret a
  | none => .fail

/-- A write: a new content that is own; gone; from now on only read. -/
inductive W1 where
  | set (c : Cont)
  | del
  | fz
abbrev Wr := List (Nat × W1)
def putM (m : List (Nat × Option Ent)) (d : Nat) : W1 → List (Nat × Option Ent)
  | .set c => (d, some ⟨true, c⟩) :: m
  | .del => (d, none) :: m
  | .fz => match atM m d with | some e => (d, some ⟨false, e.c⟩) :: m | none => m
def putMs (m : List (Nat × Option Ent)) : Wr → List (Nat × Option Ent)
  | [] => m
  | (d, x) :: r => putMs (putM m d x) r

/-! ### types -/
def tSize (P : Program) (t : TypeId) : Option Nat := match P.info? t with | some i => some i.size | none => none
def tBytes (P : Program) (t : TypeId) : Option Nat := match P.info? t with | some i => some i.bytes | none => none
def tAgg (P : Program) (t : TypeId) : Option Bool :=
  match P.underlying t with
  | some (.struct _) | some (.array ..) => some true
  | some _ => some false
  | none => none
def constPV : Value → Option PV
  | .int k n => some (.int k n)
  | .bool b => some (.bool b)
  | .string s => some (.str s.data.toList)
  | .slice none 0 0 => some .nils
  | .pointer none => some .nilp
  | .nilFunc => some .nilf
  | _ => none
def constsPV : List Value → Option (List PV)
  | [] => some []
  | v :: r =>
    match constPV v, constsPV r with
    | some x, some xs => some (x :: xs)
    | _, _ => none
def tZero (P : Program) (t : TypeId) : Option (List PV) :=
  match P.info? t with
  | some i => match i.zero with | some v => constsPV v.cells.toList | none => none
  | none => none
def tField (P : Program) (t : TypeId) (j : Nat) : Option (Nat × TypeId) :=
  match P.underlying t with
  | some (.struct fs) => match fs[j]? with | some f => some (f.offset, f.type) | none => none
  | _ => none
def tElem (P : Program) (t : TypeId) : Option TypeId :=
  match P.underlying t with
  | some (.slice e) => some e
  | _ => none

/-- The leaves of a value that may lie in memory. -/
def okLeaf : PV → Bool
  | .int .. | .bool _ | .str _ | .nils | .sl .. | .nilp | .pc _ | .nilf | .h _ | .pb .. | .pe .. => true
  | _ => false
def leavesO : PV → Option (List PV)
  | .agg cs => some cs
  | v => if okLeaf v then some [v] else none
def mkv (agg : Bool) (cs : List PV) : Option PV :=
  match agg with
  | true => some (.agg cs)
  | false => match cs with | [v] => some v | _ => none

/-! ### sealing: what is stored where it may be shared -/
def plainLeaf : PV → Bool
  | .int .. | .bool _ | .str _ | .nils | .sl .. | .nilp | .pc _ | .nilf => true
  | _ => false
/-- a row, a view, or a plain leaf -/
def seal0 : PV → RM (PV × Wr)
  | .h d => .rdc d fun
    | .row _ sz xs => .ret (.sl sz xs, [(d, .fz)])
    | _ => .fail
  | v => if plainLeaf v then .ret (v, []) else .fail
def seal0L : List PV → RM (List PV × Wr)
  | [] => .ret ([], [])
  | v :: r => (seal0 v).bind fun x => (seal0L r).bind fun y => .ret (x.1 :: y.1, x.2 ++ y.2)
def sealLeaf : PV → RM (PV × Wr)
  | .h d => .rdc d fun
    | .row _ sz xs => .ret (.sl sz xs, [(d, .fz)])
    | _ => .fail
  | .pb d off => .rdc d fun
    | .box cs => if cs.all plainLeaf then .ret (.pc (cs.drop off), [(d, .fz)]) else (seal0L cs).bind fun x => .ret (.pc (x.1.drop off), x.2 ++ [(d, .fz)])
    | _ => .fail
  | .vw d len => .rdc d fun
    | .row _ sz xs => .ret (.sl sz (xs.take len), [(d, .fz)])
    | _ => .fail
  | v => if plainLeaf v then .ret (v, []) else .fail
def sealL : List PV → RM (List PV × Wr)
  | [] => .ret ([], [])
  | v :: r => (sealLeaf v).bind fun x => (sealL r).bind fun y => .ret (x.1 :: y.1, x.2 ++ y.2)
def sealV : PV → RM (PV × Wr)
  | .agg cs => (sealL cs).bind fun x => .ret (.agg x.1, x.2)
  | .fn f caps => (sealL caps).bind fun x => .ret (.fn f x.1, x.2)
  | v => sealLeaf v
def sealLL : List (List PV) → RM (List (List PV) × Wr)
  | [] => .ret ([], [])
  | v :: r => (sealL v).bind fun x => (sealLL r).bind fun y => .ret (x.1 :: y.1, x.2 ++ y.2)

/-! ### plain operations -/
def cmpInt (op : BinOp) (a b : Int) : Option Bool :=
  match op with
  | .eql => some (a == b)
  | .neq => some (a != b)
  | .lss => some (decide (a < b))
  | .leq => some (decide (a ≤ b))
  | .gtr => some (decide (a > b))
  | .geq => some (decide (a ≥ b))
  | _ => none
def binInt (op : BinOp) (k : IntKind) (a b : Int) : Option PV :=
  match op with
  | .add => some (.int k (k.wrap (a + b)))
  | .sub => some (.int k (k.wrap (a - b)))
  | .mul => some (.int k (k.wrap (a * b)))
  | .quo => if b = 0 then none else some (.int k (k.wrap (a.tdiv b)))
  | .rem => if b = 0 then none else some (.int k (a.tmod b))
  | .and => some (.int k (k.wrap (BitVec.ofInt k.bits a &&& BitVec.ofInt k.bits b).toNat))
  | .or => some (.int k (k.wrap (BitVec.ofInt k.bits a ||| BitVec.ofInt k.bits b).toNat))
  | .xor => some (.int k (k.wrap (BitVec.ofInt k.bits a ^^^ BitVec.ofInt k.bits b).toNat))
  | .andNot => some (.int k (k.wrap (BitVec.ofInt k.bits a &&& ~~~ BitVec.ofInt k.bits b).toNat))
  | _ => match cmpInt op a b with | some r => some (.bool r) | none => none
def binStr (op : BinOp) (a b : List UInt8) : Option PV :=
  match op with
  | .add => if a.length + b.length ≤ 9223372036854775807 then some (.str (a ++ b)) else none
  | .eql => some (.bool (a == b))
  | .neq => some (.bool (!(a == b)))
  | .lss => some (.bool (Op.bytesLess a b))
  | .leq => some (.bool (Op.bytesLess a b || a == b))
  | .gtr => some (.bool (!(Op.bytesLess a b || a == b)))
  | .geq => some (.bool (!Op.bytesLess a b))
  | _ => none
def isPtr : PV → Bool
  | .pb .. | .pe .. | .pc _ => true
  | _ => false
/-- fields that are numbers, one behind the other -/
def intFs (P : Program) : List Field → Nat → Bool
  | [], _ => true
  | f :: r, i => decide (f.name ≠ "_") && (f.offset == i && ((match P.underlying f.type with | some (.int _) => true | _ => false) && intFs P r (i + 1)))
def intStruct (P : Program) (t : TypeId) : Option Nat :=
  match P.underlying t with
  | some (.struct fs) => if P.stoodInHeld t || P.eqGuardType P.depth t then none else if intFs P fs.toList 0 then some fs.toList.length else none
  | _ => none
def eqInts : Nat → List PV → List PV → Option Bool
  | 0, [], [] => some true
  | n + 1, .int k a :: r, .int k' b :: s => if k = k' then (match eqInts n r s with | some e => some (decide (a = b) && e) | none => none) else none
  | _, _, _ => none
def evBin (P : Program) (op : BinOp) (t : TypeId) (x y : PV) : Option PV :=
  match x with
  | .agg cs =>
    match y with
    | .agg ds =>
      match intStruct P t with
      | some n =>
        match eqInts n cs ds with
        | some e => match op with | .eql => some (.bool e) | .neq => some (.bool (!e)) | _ => none
        | none => none
      | none => none
    | _ => none
  | .int k a =>
    match y with
    | .int k' b =>
      match op with
      | .shl => if b < 0 then none else some (.int k (k.wrap (a * 2 ^ (min b.toNat k.bits))))
      | .shr => if b < 0 then none else some (.int k (a.fdiv (2 ^ (min b.toNat k.bits))))
      | _ => if k = k' then binInt op k a b else none
    | _ => none
  | .str a => match y with | .str b => binStr op a b | _ => none
  | .bool a =>
    match y with
    | .bool b =>
      match P.underlying t with
      | some .bool => match op with | .eql => some (.bool (a == b)) | .neq => some (.bool (!(a == b))) | _ => none
      | _ => none
    | _ => none
  | x =>
    match P.underlying t with
    | some (.pointer _) =>
      match y with
      | .nilp =>
        match op with
        | .eql => match x with | .nilp => some (.bool true) | x => if isPtr x then some (.bool false) else none
        | .neq => match x with | .nilp => some (.bool false) | x => if isPtr x then some (.bool true) else none
        | _ => none
      | _ => none
    | _ => none
def evUn (op : UnOp) (x : PV) : Option PV :=
  match op with
  | .neg => match x with | .int k n => some (.int k (k.wrap (0 - n))) | _ => none
  | .not => match x with | .bool b => some (.bool (!b)) | _ => none
  | .xor => match x with | .int k n => some (.int k (k.wrap (BitVec.ofInt k.bits (if k.signed then -1 else k.max) ^^^ BitVec.ofInt k.bits n).toNat)) | _ => none
  | _ => none

def toBytes : List (List PV) → Option (List UInt8)
  | [] => some []
  | [.int .u8 n] :: r => match toBytes r with | some l => some (UInt8.ofNat n.toNat :: l) | none => none
  | _ => none
def ofBytes (l : List UInt8) : List (List PV) := l.map fun b => [.int .u8 b.toNat]

def splice (cs : List PV) (off : Nat) (vs : List PV) : List PV := cs.take off ++ vs ++ cs.drop (off + vs.length)

/-- The elements of a literal: each the zero, or what is given for it. -/
def fillE (zero : List PV) (n : Nat) (parts : List (Nat × List PV)) : List (List PV) :=
  (List.range n).map fun i => (get parts i).getD zero
def fillF (place : Nat → Option (Nat × Nat)) (cells : List PV) : List (Nat × List PV) → Option (List PV)
  | [] => some cells
  | (i, v) :: r =>
    match place i with
    | some (off, n) => if v.length = n ∧ off + n ≤ cells.length then fillF place (splice cells off v) r else none
    | none => none
/-- Each place once. -/
def nodupK {α : Type} : List (Nat × α) → Bool
  | [] => true
  | x :: r => !(r.any fun y => y.1 == x.1) && nodupK r

def evOp (g : Nat → Option PV) : Operand → Option PV
  | .tmp t => g t
  | .const v => constPV v
  | .global _ => none
  | .func f => some (.fn f [])
def evOps (g : Nat → Option PV) : List Operand → Option (List PV)
  | [] => some []
  | x :: r =>
    match evOp g x, evOps g r with
    | some v, some vs => some (v :: vs)
    | _, _ => none
def evParts (g : Nat → Option PV) : List (Nat × Operand) → Option (List (Nat × List PV))
  | [] => some []
  | (i, x) :: r =>
    match (evOp g x).bind leavesO, evParts g r with
    | some v, some vs => some ((i, v) :: vs)
    | _, _ => none

/-- a bound that is given, or the other -/
def bnd (v : Option (Option PV)) (lim : Nat) (dflt : Nat) : Option Nat :=
  match v with
  | none => some dflt
  | some (some (.int _ i)) => if 0 ≤ i ∧ i ≤ lim then some i.toNat else none
  | _ => none
def bounds (n : Nat) (lo hi mx : Option (Option PV)) : Option (Nat × Nat) :=
  if mx.isSome && hi.isNone then none else
  match bnd mx n n with
  | none => none
  | some m =>
    match bnd hi m n with
    | none => none
    | some h =>
      match bnd lo h 0 with
      | none => none
      | some l => some (l, h)

/-- A value of type t out of cells. -/
def loadC (P : Program) (t : TypeId) (cs : List PV) (off : Nat) : Option PV :=
  match tSize P t, tAgg P t with
  | some n, some g => if off + n ≤ cs.length then mkv g ((cs.drop off).take n) else none
  | _, _ => none

/-- Calls that are told by rule. -/
inductive Ext where
  | clip
  | keep
  | rw (mv : Bool) (g : TypeId → Nat → List (List PV) → Option (List (List PV)))
  | rwx (mv : Bool) (c : FuncId) (g : TypeId → Nat → List (List PV) → Option (List (List PV)))
  | fn (f : List PV → Option PV)
  | bx (j : Nat) (g : List PV → TypeId → Nat → List (List PV) → Option (Option (List (List PV)) × PV))

/-- What is kept at a loop's head: a slot; its leaves that are rows of the call's own, nil or not: (leaf, element type, size). -/
structure NI where
  t : Nat
  rows : List (Nat × TypeId × Nat) := []

structure Env where
  P : Program
  fns : FuncId → Option Func
  lv : FuncId → Nat → List NI
  ext : FuncId → Option Ext
  vw : TypeId → Bool := fun _ => false

abbrev Call := FuncId → List PV → List (List PV) → Option (PV × List (List PV))

/-- slices.Clone -/
def cloneF (e : TypeId) (sz bytes : Nat) : List PV → Option PV
  | [.nils] => some (.nr e sz [])
  | [.sl sz' xs] => if sz' == sz && Nat.ble (xs.length * (bytes + 1)) 70368744177664 then some (.nr e sz xs) else none
  | _ => none

/-- Does a result tell of what was handed in (as far as its form shows)? -/
def sharesP : PV → Bool
  | .sl .. | .pc _ | .fn .. | .nr .. | .nb _ => true
  | _ => false
def sharesR : PV → Bool
  | .nr _ _ xs => xs.any fun x => x.any sharesP
  | p => sharesP p
def sharesLeaf : PV → Bool
  | .nb cs => cs.any sharesR
  | p => sharesR p
def shares : PV → Bool
  | .agg cs => cs.any sharesLeaf
  | .tup vs => vs.any fun | .agg cs => cs.any sharesLeaf | v => sharesLeaf v
  | v => sharesLeaf v

def lentId (j : Nat) : Nat := 16777216 + j
/-- The arguments of a call: what is handed over, what is frozen if the result shares, what is lent. -/
def lendA : List PV → List (Nat × List PV) → RM (List PV × Wr × Wr × List (Nat × List PV))
  | [], bs => .ret ([], [], [], bs)
  | v :: r, bs =>
    match v with
    | .pb d 0 => .own d fun
      | .box cs =>
        if bs.any fun b => b.1 == d then .fail else
        (sealL cs).bind fun x => (lendA r (bs ++ [(d, x.1)])).bind fun y => .ret (.pb (lentId bs.length) 0 :: y.1, y.2.1, x.2 ++ y.2.2.1, y.2.2.2)
      | _ => .fail
    | v => (sealV v).bind fun x => (lendA r bs).bind fun y => .ret (x.1 :: y.1, x.2 ++ y.2.1, y.2.2)

/-- Results taken in: new ids for what is new. -/
def impLeaf (fid : Nat) (j : Nat) : PV → PV × Wr × Nat
  | .nr e sz xs => (.h (fid + j), [(fid + j, .set (.row e sz xs))], j + 1)
  | v => (v, [], j)
def impL (fid : Nat) : Nat → List PV → List PV × Wr × Nat
  | j, [] => ([], [], j)
  | j, v :: r =>
    match impLeaf fid j v with
    | (x, w, j1) => match impL fid j1 r with | (xs, w', j2) => (x :: xs, w ++ w', j2)
def impV (fid : Nat) (j : Nat) : PV → PV × Wr × Nat
  | .agg cs => match impL fid j cs with | (xs, w, j1) => (.agg xs, w, j1)
  | .nb cs => match impL fid (j + 1) cs with | (xs, w, j1) => (.pb (fid + j) 0, (fid + j, .set (.box xs)) :: w, j1)
  | v => impLeaf fid j v
def impVs (fid : Nat) : Nat → List PV → List PV × Wr × Nat
  | j, [] => ([], [], j)
  | j, v :: r =>
    match impV fid j v with
    | (x, w, j1) => match impVs fid j1 r with | (xs, w', j2) => (x :: xs, w ++ w', j2)
def impR (fid : Nat) (j : Nat) : PV → PV × Wr × Nat
  | .tup vs => match impVs fid j vs with | (xs, w, j1) => (.tup xs, w, j1)
  | v => impV fid j v
def impB (fid : Nat) : Nat → List Nat → List (List PV) → Option (Wr × Nat)
  | j, [], [] => some ([], j)
  | j, d :: ds, cs :: r =>
    match impL fid j cs with
    | (xs, w, j1) => match impB fid j1 ds r with | some (w', j2) => some ((d, .set (.box xs)) :: w ++ w', j2) | none => none
  | _, _, _ => none

def samePV : PV → PV → Bool
  | .int k n, .int k' n' => decide (k = k') && decide (n = n')
  | .bool a, .bool b => a == b
  | .str a, .str b => decide (a = b)
  | .nils, .nils => true
  | _, _ => false
def sameL : List PV → List PV → Bool
  | [], [] => true
  | a :: r, b :: s => samePV a b && sameL r s
  | _, _ => false
/-- A lent box that comes back as it was is not written. -/
def retB (v : PV) : Wr → Wr → RM (PV × Wr)
  | a, [] => .ret (v, a)
  | a, (d, x) :: r =>
    match x with
    | .set (.box xs) =>
      if a.any fun y => y.1 == d then retB v (a ++ [(d, .set (.box xs))]) r else
      .own d fun
        | .box cs => if sameL cs xs then retB v a r else retB v (a ++ [(d, .set (.box xs))]) r
        | _ => retB v (a ++ [(d, .set (.box xs))]) r
    | x => retB v (a ++ [(d, x)]) r
def keeps : Option Ext → Bool
  | some .keep => true
  | _ => false
def endB (x : Option Ext) (v : PV) (a wb : Wr) : RM (PV × Wr) := if keeps x then retB v a wb else .ret (v, a ++ wb)

def callOf (_E : Env) (call : Call) (f : FuncId) (x : Option Ext) (y : List PV × Wr × Wr × List (Nat × List PV)) : Option (PV × List (List PV)) :=
  match x with
  | some (.fn g) => if y.2.2.2.isEmpty then (match g y.1 with | some r => some (r, []) | none => none) else none
  | _ => call f y.1 (y.2.2.2.map (·.2))
/-- A row of one's own that is rewritten in its place (mv: and goes on under another id). -/
def rwSem (mv : Bool) (g : TypeId → Nat → List (List PV) → Option (List (List PV))) (fid : Nat) (args : List PV) : RM (PV × Wr) :=
  match args with
  | [.nils] => .ret ((match mv with | true => .nils | false => .tup []), [])
  | [.h d] => .own d fun
    | .row e sz xs =>
      match g e sz xs with
      | some ys => (match mv with | true => .ret (.h fid, [(d, .del), (fid, .set (.row e sz ys))]) | false => .ret (.tup [], [(d, .set (.row e sz ys))]))
      | none => .fail
    | _ => .fail
  | _ => .fail
/-- The same, by a function that is handed over. -/
def rwxSem (mv : Bool) (c : FuncId) (g : TypeId → Nat → List (List PV) → Option (List (List PV))) (fid : Nat) (args : List PV) : RM (PV × Wr) :=
  match args with
  | [a, .fn c' []] => if c' == c then rwSem mv g fid [a] else .fail
  | _ => .fail
def plainV : PV → Bool
  | .agg cs => cs.all plainLeaf
  | v => plainLeaf v
/-- A box whose row of its own (a leaf) is rewritten in its place. -/
def bxSem (j : Nat) (g : List PV → TypeId → Nat → List (List PV) → Option (Option (List (List PV)) × PV)) (args : List PV) : RM (PV × Wr) :=
  match args with
  | .pb d 0 :: rest => .own d fun
    | .box cs => (match cs[j]? with
      | some (.h r) => .rdc r fun
        | .row e sz xs => (match (if rest.all plainV then g rest e sz xs else none) with | some (none, v) => .ret (v, []) | some (some ys, v) => .own r fun _ => .ret (v, [(r, .set (.row e sz ys))]) | none => .fail)
        | _ => .fail
      | some (.sl sz xs) => (match (if rest.all plainV then g rest 0 sz xs else none) with | some (none, v) => .ret (v, []) | _ => .fail)
      | _ => .fail)
    | _ => .fail
  | _ => .fail
def callSem (E : Env) (call : Call) (fid : Nat) (f : FuncId) (args : List PV) : RM (PV × Wr) :=
  match E.ext f with
  | some .clip =>
    match args with
    | [.nils] => .ret (.nils, [])
    | [.sl sz xs] => .ret (.sl sz xs, [])
    | [.h d] => .own d fun
      | .row e sz xs => .ret (.h fid, [(d, .del), (fid, .set (.row e sz xs))])
      | _ => .fail
    | _ => .fail
  | some (.rw mv g) => rwSem mv g fid args
  | some (.rwx mv c g) => rwxSem mv c g fid args
  | some (.bx j g) => bxSem j g args
  | x =>
    (lendA args []).bind fun (y : List PV × Wr × Wr × List (Nat × List PV)) =>
      if (y.2.1 ++ y.2.2.1).any (fun z => y.2.2.2.any fun b => b.1 == z.1) then .fail else
      match callOf E call f x y with
      | none => .fail
      | some (r, lent) =>
        match impR fid 0 r with
        | (v, w, j) =>
          match impB fid j (y.2.2.2.map (·.1)) lent with
          | none => .fail
          | some (wb, j') => if j' ≤ 64 then endB x v ((if shares r || !y.2.2.2.isEmpty then y.2.1 else []) ++ y.2.2.1 ++ w) wb else .fail

/-- The elements (of n cells each) that a slice tells. -/
def elemsOf (n : Nat) : PV → RM (List (List PV))
  | .nils => .ret []
  | .sl sz xs => if sz == n then .ret xs else .fail
  | .h d => .rdc d fun | .row _ sz xs => if sz == n then .ret xs else .fail | _ => .fail
  | _ => .fail
def lenOf : PV → RM Nat
  | .nils => .ret 0
  | .sl _ xs => .ret xs.length
  | .h d => .rdc d fun | .row _ _ xs => .ret xs.length | _ => .fail
  | _ => .fail
/-- Lengths and sizes stay far below what the machine bears. -/
def lim : Nat := 70368744177664

def retO : Option PV → RM (PV × Wr)
  | some v => .ret (v, [])
  | none => .fail
def lenS (P : Program) (t : Option TypeId) (a : PV) : RM (PV × Wr) :=
  match t with
  | none => .fail
  | some t =>
    match P.underlying t with
    | some .string => match a with | .str s => .ret (.int .i64 s.length, []) | _ => .fail
    | some (.slice _) => (lenOf a).bind fun n => .ret (.int .i64 n, [])
    | _ => .fail
def minmaxS (mx : Bool) : List PV → RM (PV × Wr)
  | [.int k a, .int k' b] => if k = k' then .ret (.int k (match mx with | true => if b > a then b else a | false => if b < a then b else a), []) else .fail
  | _ => .fail
def appendTo (fid : Nat) (e n bytes : Nat) (ys : List (List PV)) (x : PV) : RM (PV × Wr) :=
  match x with
  | .nils => if ys.length * (bytes + 1) ≤ lim then .ret (.h fid, [(fid, .set (.row e n ys))]) else .fail
  | .h d => .own d fun
    | .row e' sz xs =>
      if e' == e && sz == n && decide ((xs.length + ys.length) * (bytes + 1) ≤ lim) then .ret (.h fid, [(d, .del), (fid, .set (.row e sz (xs ++ ys)))]) else .fail
    | _ => .fail
  | _ => .fail
def appendS (P : Program) (fid : Nat) (t t' : Option TypeId) (x y : PV) : RM (PV × Wr) :=
  match t, t' with
  | some t, some t' =>
    match P.underlying t, P.underlying t' with
    | some (.slice e), some u =>
      match tSize P e, tBytes P e, tZero P e with
      | some (n + 1), some b, some z =>
        if z.length == n + 1 then
          match u with
          | .string => match y with | .str s => if n == 0 then appendTo fid e 1 b (ofBytes s) x else .fail | _ => .fail
          | .slice _ => (elemsOf (n + 1) y).bind fun ys => appendTo fid e (n + 1) b ys x
          | _ => .fail
        else .fail
      | _, _, _ => .fail
    | _, _ => .fail
  | _, _ => .fail
def builtinSem (P : Program) (fid : Nat) (b : Builtin) (ts : Array TypeId) (args : List PV) : RM (PV × Wr) :=
  match b with
  | .len => match args with | [x] => lenS P ts[0]? x | _ => .fail
  | .max => minmaxS true args
  | .min => minmaxS false args
  | .append => match args with | [x, y] => (if ts.size == 2 then appendS P fid ts[0]? ts[1]? x y else .fail) | _ => .fail
  | _ => .fail
def loadS (P : Program) (t : TypeId) : PV → RM (PV × Wr)
  | .pb d off => .rdc d fun | .box cs => retO (loadC P t cs off) | _ => .fail
  | .pe d i off => .rdc d fun | .row _ _ xs => (match xs[i]? with | some cs => retO (loadC P t cs off) | none => .fail) | _ => .fail
  | .pc cs => retO (loadC P t cs 0)
  | _ => .fail
/-- a pointer that is kept in a variable is kept as what it leads to now -/
def isPtrT (P : Program) (t : TypeId) : Bool := match P.underlying t with | some (.pointer _) => true | _ => false
def storeS (P : Program) (t : TypeId) (a : PV) (v : List PV) : RM (PV × Wr) :=
  match tSize P t with
  | none => .fail
  | some n =>
    if v.length == n then
      match a with
      | .pb d off => .own d fun
        | .box cs =>
          if off + n ≤ cs.length then
            (match isPtrT P t with
            | false => .ret (.undef, [(d, .set (.box (splice cs off v)))])
            | true => (sealL v).bind fun s => if (s.2.all fun x => !(x.1 == d)) = true then .ret (.undef, s.2 ++ [(d, .set (.box (splice cs off s.1)))]) else .fail)
          else .fail
        | _ => .fail
      | .pe d i off => .own d fun
        | .row e sz xs =>
          match xs[i]? with
          | some cs => (sealL v).bind fun s => if off + n ≤ cs.length ∧ (s.2.all fun x => !(x.1 == d)) = true then .ret (.undef, s.2 ++ [(d, .set (.row e sz (xs.set i (splice cs off s.1))))]) else .fail
          | none => .fail
        | _ => .fail
      | _ => .fail
    else .fail
def convS (P : Program) (fid : Nat) (s t : TypeId) (a : PV) : RM (PV × Wr) :=
  match P.underlying s, P.underlying t with
  | some _, some (.int k) => match a with | .int _ n => .ret (.int k (k.wrap n), []) | _ => .fail
  | some .string, some .string => match a with | .str l => .ret (.str l, []) | _ => .fail
  | some .string, some (.slice e) =>
    match P.underlying e, a with
    | some (.int .u8), .str l => if tSize P e = some 1 then .ret (.h fid, [(fid, .set (.row e 1 (ofBytes l)))]) else .fail
    | _, _ => .fail
  | some (.slice _), some (.slice e') =>
    match P.underlying e', a with
    | some (.int .u8), .h d => if s == t then .own d fun | .row e1 sz xs => (if xs.isEmpty then .fail else .ret (.h d, [(d, .set (.row e1 sz xs))])) | _ => .fail else .fail
    | _, _ => .fail
  | some (.slice e), some .string =>
    match P.underlying e with
    | some (.int .u8) => (elemsOf 1 a).bind fun xs => retO (match toBytes xs with | some l => some (.str l) | none => none)
    | _ => .fail
  | _, _ => .fail
def makeS (P : Program) (fid : Nat) (t : TypeId) (a b : PV) : RM (PV × Wr) :=
  match P.underlying t with
  | some (.slice e) =>
    match tZero P e, tSize P e, tBytes P e with
    | some z, some (n + 1), some by' =>
      if z.length == n + 1 then
      match a, b with
      | .int _ x, .int _ c => if 0 ≤ x ∧ x ≤ c ∧ c * (by' + 1) ≤ lim then .ret (.h fid, [(fid, .set (.row e (n + 1) (List.replicate x.toNat z)))]) else .fail
      | _, _ => .fail
      else .fail
    | _, _, _ => .fail
  | _ => .fail
def sliceS (P : Program) (t : TypeId) (a : PV) (lo hi mx : Option (Option PV)) : RM (PV × Wr) :=
  match P.underlying t with
  | some .string =>
    match a, mx with
    | .str s, none => match bounds s.length lo hi none with | some (l, h) => .ret (.str ((s.take h).drop l), []) | none => .fail
    | _, _ => .fail
  | some (.slice e) =>
    match tSize P e, a with
    | some _, .nils => match bounds 0 lo hi mx with | some _ => .ret (.nils, []) | none => .fail
    | some n, .sl sz xs => match bounds xs.length lo hi mx with | some (l, h) => if sz == n then .ret (.sl sz ((xs.take h).drop l), []) else .fail | none => .fail
    | some n, .h d => .rdc d fun
      | .row _ sz xs =>
        match bounds xs.length lo hi mx with
        | some (l, h) => if sz == n then .ret (.sl sz ((xs.take h).drop l), [(d, .fz)]) else .fail
        | none => .fail
      | _ => .fail
    | _, _ => .fail
  | _ => .fail
/-- the beginning of an own row, looked at: it stays one's own -/
def viewS (P : Program) (t : TypeId) (a : PV) (lo hi mx : Option (Option PV)) : RM (PV × Wr) :=
  match P.underlying t with
  | some (.slice e) =>
    match tSize P e, a with
    | some n, .h d => .rdc d fun
      | .row _ sz xs =>
        match bounds xs.length lo hi mx with
        | some (l, h) => if sz == n && l == 0 then .ret (.vw d h, []) else .fail
        | none => .fail
      | _ => .fail
    | _, _ => .fail
  | _ => .fail
def fieldAddrS (P : Program) (t : TypeId) (j : Nat) (a : PV) : RM (PV × Wr) :=
  match tField P t j with
  | some (off, ft) =>
    match tSize P ft with
    | some (_ + 1) =>
      match a with
      | .pb d o => .ret (.pb d (o + off), [])
      | .pe d i o => .ret (.pe d i (o + off), [])
      | .pc cs => .ret (.pc (cs.drop off), [])
      | _ => .fail
    | _ => .fail
  | none => .fail
def indexAddrS (P : Program) (t : TypeId) (a i : PV) : RM (PV × Wr) :=
  match P.underlying t with
  | some (.slice e) =>
    match tSize P e, i with
    | some (m + 1), .int _ n =>
      if 0 ≤ n then
        match a with
        | .sl sz xs => if sz == m + 1 then (match xs[n.toNat]? with | some cs => .ret (.pc cs, []) | none => .fail) else .fail
        | .h d => .rdc d fun | .row _ sz xs => if sz == m + 1 && decide (n.toNat < xs.length) then .ret (.pe d n.toNat 0, []) else .fail | _ => .fail
        | _ => .fail
      else .fail
    | _, _ => .fail
  | _ => .fail
def indexS (P : Program) (t : TypeId) (a i : PV) : RM (PV × Wr) :=
  match P.underlying t, a, i with
  | some .string, .str s, .int _ n => if 0 ≤ n then (match s[n.toNat]? with | some c => .ret (.int .u8 c.toNat, []) | none => .fail) else .fail
  | _, _, _ => .fail
def tPlaces (P : Program) (t : TypeId) : Option (List (Nat × Nat)) :=
  match P.underlying t with
  | some (.struct fs) => fs.toList.mapM fun f => (P.info? f.type).map fun i => (f.offset, i.size)
  | _ => none
def buildS (P : Program) (t : TypeId) (l : List (Nat × List PV)) : RM (PV × Wr) :=
  match tPlaces P t, tZero P t with
  | some pl, some z =>
    match fillF (fun j => pl[j]?) z l with
    | some cs => .ret (.agg cs, [])
    | none => .fail
  | _, _ => .fail
def buildSliceS (P : Program) (fid : Nat) (t : TypeId) (n : Nat) (l : List (Nat × List PV)) : RM (PV × Wr) :=
  match P.underlying t with
  | some (.slice e) =>
    match tSize P e, tZero P e with
    | some (s + 1), some z =>
      if decide (n * (s + 1) ≤ 16777216) && decide (z.length = s + 1) && (l.all fun x => x.2.length == s + 1 && Nat.blt x.1 n) && nodupK l then
        (sealLL (fillE z n l)).bind fun x => .ret (.h fid, x.2 ++ [(fid, .set (.row e (s + 1) x.1))])
      else .fail
    | _, _ => .fail
  | _ => .fail
def opSem (E : Env) (call : Call) (fid : Nat) (g : Nat → Option PV) (op : Op) : RM (PV × Wr) :=
  match op with
  | .move x | .assign x => retO (evOp g x)
  | .pick c a b => match evOp g c with | some (.bool t) => (match t with | true => retO (evOp g a) | false => retO (evOp g b)) | _ => .fail
  | .alloc t => match tZero E.P t with | some cs => .ret (.pb fid 0, [(fid, .set (.box cs))]) | none => .fail
  | .box _ x => (RM.of ((evOp g x).bind leavesO)).bind fun cs => .ret (.pb fid 0, [(fid, .set (.box cs))])
  | .build t ps => (RM.of (evParts g ps.toList)).bind fun l => buildS E.P t l
  | .buildSlice t n ps => (RM.of (evParts g ps.toList)).bind fun l => buildSliceS E.P fid t n l
  | .load t x => (RM.of (evOp g x)).bind fun a => loadS E.P t a
  | .store t x y => (RM.of (evOp g x)).bind fun a => (RM.of ((evOp g y).bind leavesO)).bind fun v => storeS E.P t a v
  | .nilCheck x => (RM.of (evOp g x)).bind fun v => if isPtr v then .ret (v, []) else .fail
  | .binOp op t x y _ => (RM.of (evOp g x)).bind fun a => (RM.of (evOp g y)).bind fun b => retO (evBin E.P op t a b)
  | .unOp op _ x => (RM.of (evOp g x)).bind fun a => retO (evUn op a)
  | .convert s t x => (RM.of (evOp g x)).bind fun a => convS E.P fid s t a
  | .makeSlice t n c => (RM.of (evOp g n)).bind fun a => (RM.of (evOp g c)).bind fun b => makeS E.P fid t a b
  | .slice t x lo hi mx => (RM.of (evOp g x)).bind fun a => if E.vw t = true then viewS E.P t a (lo.map (evOp g)) (hi.map (evOp g)) (mx.map (evOp g)) else sliceS E.P t a (lo.map (evOp g)) (hi.map (evOp g)) (mx.map (evOp g))
  | .fieldAddr t x j => (RM.of (evOp g x)).bind fun a => fieldAddrS E.P t j a
  | .field t x j => (RM.of (evOp g x)).bind fun a =>
    match tField E.P t j, a with
    | some (off, ft), .agg cs => retO (loadC E.P ft cs off)
    | _, _ => .fail
  | .indexAddr t x i => (RM.of (evOp g x)).bind fun a => (RM.of (evOp g i)).bind fun b => indexAddrS E.P t a b
  | .index t x i => (RM.of (evOp g x)).bind fun a => (RM.of (evOp g i)).bind fun b => indexS E.P t a b
  | .extract x j => (RM.of (evOp g x)).bind fun
    | .tup vs => retO vs[j]?
    | _ => .fail
  | .makeFunc (.func f) first caps =>
    if first.isEmpty then (match evOps g caps.toList with | some cs => (if cs.all okLeaf then .ret (.fn f cs, []) else .fail) | none => .fail) else .fail
  | .call c =>
    match evOps g c.args.toList with
    | none => .fail
    | some args =>
      match c.callee with
      | .builtin b => builtinSem E.P fid b c.argTypes args
      | .value x => (RM.of (evOp g x)).bind fun
        | .fn f caps => callSem E call fid f (args ++ caps)
        | _ => .fail
      | _ => .fail
  | _ => .fail

/-- contents read, own ones read, written, frozen -/
structure Tr where
  rc : List Nat
  ro : List Nat
  w : List Nat
  fz : List Nat
def wrHard (w : Wr) : List Nat := w.filterMap fun x => match x.2 with | .fz => none | _ => some x.1
def wrSoft (w : Wr) : List Nat := w.filterMap fun x => match x.2 with | .fz => some x.1 | _ => none

def St.put (S : St) (dst : Option Tmp) (v : PV) (w : Wr) : St :=
  { S with sl := (match dst with | some t => (t, v) :: S.sl | none => S.sl), mem := putMs S.mem w }
/-- Is the operation wanted? -/
def wantsO (ops : Array Oper) (o : Oper) (S : St) : Option Bool :=
  match o.guard with
  | none => some true
  | some (j, want) =>
    match ops[j]? with
    | some q =>
      match q.dst with
      | some t =>
        match S.slot t with
        | some (.bool b) => some (b == want)
        | some .undef => some false
        | _ => none
      | none => none
    | none => none
def stepO (E : Env) (call : Call) (ops : Array Oper) (i : Nat) (o : Oper) (S : St) : Option (St × Tr) :=
  match wantsO ops o S with
  | none => none
  | some false => some (S.put o.dst .undef [], ⟨[], [], [], []⟩)
  | some true =>
    match (opSem E call (S.ep * 33554432 + i * 64) S.slot o.op).run S.at with
    | some ((v, w), rc, ro) => some (S.put o.dst v w, ⟨rc, ro, wrHard w, wrSoft w⟩)
    | none => none
def runO (E : Env) (call : Call) (ops : Array Oper) : Nat → List Oper → St → Option (St × List Tr)
  | _, [], S => some (S, [])
  | i, o :: r, S =>
    match stepO E call ops i o S with
    | none => none
    | some (S1, t) =>
      match runO E call ops (i + 1) r S1 with
      | none => none
      | some (S2, ts) => some (S2, t :: ts)

/-! ### any order -/
def idless : Op → Bool
  | .move _ | .assign _ | .pick .. | .build .. | .binOp .. | .unOp .. | .fieldAddr .. | .field .. | .index .. | .extract .. | .makeFunc .. | .nilCheck _ => true
  | _ => false
def hardPairs (ops : List Oper) (opsA : Array Oper) (bef : Array Nat) : Option (List (Nat × Nat)) :=
  ops.zipIdx.foldr (init := some []) fun (oj, j) acc =>
    ops.zipIdx.foldr (init := acc) fun (oi, i) acc =>
      if i < j && !(bef.getD j 0).testBit i then
        if !oi.apart opsA oj then none
        else if idless oi.op || idless oj.op then acc
        else acc.map ((i, j) :: ·)
      else acc
/-- Who is before whom: told by the edges. -/
def befOK (ops : Array Oper) (bef : Array Nat) : Bool :=
  ops.toList.zipIdx.all fun (o, j) => (List.range ops.size).all fun i => !(bef.getD j 0).testBit i || o.after.any fun e => Region.binds .any e && (e.on == i || (bef.getD e.on 0).testBit i)
def meets (a b : List Nat) : Bool := a.any fun x => b.any fun y => x == y
def clash1 (x y : Tr) : Bool := meets x.w y.rc || meets x.w y.ro || meets x.w y.w || meets x.w y.fz || meets x.fz y.ro
def clash (x y : Tr) : Bool := clash1 x y || clash1 y x
def drawOK (ops : Array Oper) (tr : List Tr) : Bool :=
  Region.noSelect ops && (ops.all fun o => match o.guard with | some (j, _) => o.after.any fun e => e.on == j && Region.binds .any e | none => true) &&
  (ops.toList.zipIdx.all fun (o, i) => o.after.all fun e => !Region.binds .any e || e.on < i) &&
  befOK ops (Region.before ops) &&
  match hardPairs ops.toList ops (Region.before ops) with
  | none => false
  | some ps => ps.all fun (i, j) => match tr[i]?, tr[j]? with | some a, some b => !clash a b | _, _ => false

/-! ### at a loop's head -/
def isLent (d : Nat) : Bool := Nat.ble 16777216 d && Nat.blt d 33554432
/-- What is kept: slots, entries, where the entries were. -/
abbrev NR := List (Nat × PV) × List (Nat × Ent) × List Nat × List Nat
def leafId (t j : Nat) : Nat := 2097152 + t * 64 + j
def boxId (t : Nat) : Nat := 1048576 + t
/-- dup: rows that two slots hold are from now on only read. -/
def normLeaf (S : St) (dup : Nat → Bool) (t j : Nat) (row : Option (TypeId × Nat)) (v : PV) : Option (PV × List (Nat × Ent) × List Nat × List Nat) :=
  match v with
  | .h d =>
    match S.at d with
    | some ⟨true, .row e sz xs⟩ => if dup d then some (.sl sz xs, [], [], [d]) else some (.h (leafId t j), [(leafId t j, ⟨true, .row e sz xs⟩)], [d], [])
    | some ⟨false, .row _ sz xs⟩ => some (.sl sz xs, [], [], [])
    | _ => none
  | .nils =>
    match row with
    | some (e, sz) => some (.h (leafId t j), [(leafId t j, ⟨true, .row e sz []⟩)], [], [])
    | none => some (.nils, [], [], [])
  | v => if plainLeaf v then some (v, [], [], []) else none
def normLeafs (S : St) (dup : Nat → Bool) (t : Nat) (rows : List (Nat × TypeId × Nat)) : Nat → List PV → Option (List PV × List (Nat × Ent) × List Nat × List Nat)
  | _, [] => some ([], [], [], [])
  | j, v :: r =>
    match normLeaf S dup t j (get rows j) v, normLeafs S dup t rows (j + 1) r with
    | some x, some y => some (x.1 :: y.1, x.2.1 ++ y.2.1, x.2.2.1 ++ y.2.2.1, x.2.2.2 ++ y.2.2.2)
    | _, _ => none
def normI (S : St) (dup : Nat → Bool) (n : NI) : Option NR :=
  match S.slot n.t with
  | none => none
  | some v =>
    match v with
    | .agg cs => match normLeafs S dup n.t n.rows 0 cs with | some (vs, w, ds, fs) => some ([(n.t, .agg vs)], w, ds, fs) | none => none
    | .fn _ cs => if cs.all plainLeaf then some ([(n.t, v)], [], [], []) else none
    | .pb d off =>
      if isLent d then some ([(n.t, v)], [], [], []) else
      match S.at d with
      | some ⟨true, .box cs⟩ => match normLeafs S dup n.t n.rows 0 cs with | some (vs, w, ds, fs) => some ([(n.t, .pb (boxId n.t) off)], (boxId n.t, ⟨true, .box vs⟩) :: w, d :: ds, fs) | none => none
      | _ => none
    | v => match normLeaf S dup n.t 0 (get n.rows 0) v with | some (x, w, ds, fs) => some ([(n.t, x)], w, ds, fs) | none => none
def normL (S : St) (dup : Nat → Bool) : List NI → Option NR
  | [] => some ([], [], [], [])
  | x :: r =>
    match normI S dup x, normL S dup r with
    | some a, some b => some (a.1 ++ b.1, a.2.1 ++ b.2.1, a.2.2.1 ++ b.2.2.1, a.2.2.2 ++ b.2.2.2)
    | _, _ => none
/-- What was lent stays. -/
def normLent (S : St) : Nat → Option (List (Nat × Ent))
  | 0 => some []
  | n + 1 =>
    match S.at (lentId n), normLent S n with
    | some ⟨true, .box cs⟩, some r => if cs.all plainLeaf then some ((lentId n, ⟨true, .box cs⟩) :: r) else none
    | _, _ => none
def nodupB : List Nat → Bool
  | [] => true
  | x :: r => !(r.any fun y => y == x) && nodupB r
/-- the own rows that a slot holds -/
def heldP (S : St) : List PV → List Nat
  | [] => []
  | .h d :: r => d :: heldP S r
  | _ :: r => heldP S r
def heldI (S : St) (n : NI) : List Nat :=
  match S.slot n.t with
  | some (.h d) => [d]
  | some (.agg cs) => heldP S cs
  | some (.pb d _) => (match S.at d with | some ⟨_, .box cs⟩ => heldP S cs | _ => [])
  | _ => []
def twice : List Nat → List Nat
  | [] => []
  | x :: r => if r.any (· == x) then x :: twice r else twice r
def norm (n : Nat) (S : St) (L : List NI) : Option St :=
  match twice (L.flatMap (heldI S)) with
  | dups =>
    match normL S (fun d => dups.any (· == d)) L, normLent S n with
    | some (sl, m, ds, fs), some lent =>
      if nodupB (m.map (·.1)) && nodupB ds && (m.all fun x => Nat.blt x.1 16777216) && (ds.all fun d => !isLent d) && (fs.all fun d => !(ds.any (· == d))) then
        some { sl := sl, mem := (m ++ lent).map fun x => (x.1, some x.2), ep := 1 } else none
    | _, _ => none

inductive Out where
  | normal
  | exit (id : Nat)
  | ret

def firstRid : Code → Nat
  | .region id _ _ => id
  | .seq a _ => firstRid a
  | .cond _ a _ => firstRid a
  | .block _ b => firstRid b
  | .loop b => firstRid b
  | .scope b => firstRid b
  | _ => 0

/-- Round after round. -/
def iter (nrm : St → Option St) (body : St → Option (Out × St)) : Nat → St → Option (Out × St)
  | 0, _ => none
  | k + 1, S =>
    match nrm S with
    | none => none
    | some S1 =>
      match body S1 with
      | none => none
      | some (o, S2) => match o with | .normal => iter nrm body k S2 | o => some (o, S2)

def denC (E : Env) (call : Call) (f : FuncId) (nl : Nat) (k : Nat) : Code → St → Option (Out × St)
  | .skip, S => some (.normal, S)
  | .region _ ops draw, S =>
    match runO E call ops 0 ops.toList S with
    | none => none
    | some (S', tr) => if Nat.ble ops.size 524288 && (!draw || drawOK ops tr) then some (.normal, { S' with ep := S'.ep + 1 }) else none
  | .seq a b, S =>
    match denC E call f nl k a S with
    | none => none
    | some (o, S1) => match o with | .normal => denC E call f nl k b S1 | o => some (o, S1)
  | .cond c a b, S =>
    match evOp S.slot c with
    | some (.bool t) => (match t with | true => denC E call f nl k a S | false => denC E call f nl k b S)
    | _ => none
  | .block id b, S =>
    match denC E call f nl k b S with
    | none => none
    | some (o, S1) => match o with | .exit id' => (if id' == id then some (.normal, S1) else some (.exit id', S1)) | o => some (o, S1)
  | .loop b, S => iter (fun S => norm nl S (E.lv f (firstRid b))) (denC E call f nl k b) k S
  | .exit id, S => some (.exit id, S)
  | .ret, S => some (.ret, S)
  | _, _ => none

/-! ### a call, from its beginning to its end -/
def expLeaf (S : St) (used : List Nat) : PV → Option (PV × List Nat)
  | .h d =>
    match S.at d with
    | some ⟨true, .row e sz xs⟩ => if used.any (· == d) then none else some (.nr e sz xs, d :: used)
    | some ⟨false, .row _ sz xs⟩ => some (.sl sz xs, used)
    | _ => none
  | v => if plainLeaf v then some (v, used) else none
def expL (S : St) : List Nat → List PV → Option (List PV × List Nat)
  | used, [] => some ([], used)
  | used, v :: r =>
    match expLeaf S used v with
    | none => none
    | some (x, u1) => match expL S u1 r with | none => none | some (xs, u2) => some (x :: xs, u2)
def expV (S : St) (used : List Nat) : PV → Option (PV × List Nat)
  | .agg cs => match expL S used cs with | some (xs, u) => some (.agg xs, u) | none => none
  | .fn f cs => if cs.all plainLeaf then some (.fn f cs, used) else none
  | .pb d off =>
    match S.at d with
    | some ⟨true, .box cs⟩ =>
      if off == 0 && !isLent d && !(used.any (· == d)) then (match expL S (d :: used) cs with | some (xs, u) => some (.nb xs, u) | none => none) else none
    | _ => none
  | v => expLeaf S used v
def expVs (S : St) : List Nat → List PV → Option (List PV × List Nat)
  | used, [] => some ([], used)
  | used, v :: r =>
    match expV S used v with
    | none => none
    | some (x, u1) => match expVs S u1 r with | none => none | some (xs, u2) => some (x :: xs, u2)
def expB (S : St) : List Nat → List Nat → Option (List (List PV) × List Nat)
  | used, [] => some ([], used)
  | used, d :: r =>
    match S.at d with
    | some ⟨true, .box cs⟩ =>
      match expL S used cs with
      | none => none
      | some (x, u1) => match expB S u1 r with | none => none | some (xs, u2) => some (x :: xs, u2)
    | _ => none
def resO (P : Program) (S : St) : ResultVar → Option PV
  | .tmp t => S.slot t
  | .cell a t =>
    match S.slot a with
    | some (.pb d off) => match S.at d with | some ⟨_, .box cs⟩ => loadC P t cs off | _ => none
    | _ => none
def resOs (P : Program) (S : St) : List ResultVar → Option (List PV)
  | [] => some []
  | x :: r => match resO P S x, resOs P S r with | some v, some vs => some (v :: vs) | _, _ => none
def finish (P : Program) (fn : Func) (n : Nat) (S : St) : Option (PV × List (List PV)) :=
  match resOs P S fn.results.toList with
  | none => none
  | some vs =>
    match expVs S [] vs with
    | none => none
    | some (xs, u) =>
      match expB S u ((List.range n).map lentId) with
      | none => none
      | some (lent, _) => match xs with | [x] => some (x, lent) | xs => some (.tup xs, lent)
def entry (args : List PV) (lent : List (List PV)) : St :=
  { sl := args.zipIdx.map fun x => (x.2, x.1), mem := lent.zipIdx.map fun x => (lentId x.2, some ⟨true, .box x.1⟩), ep := 1 }
def den (E : Env) : Nat → Call
  | 0, _, _, _ => none
  | k + 1, f, args, lent =>
    match E.fns f with
    | none => none
    | some fn =>
      match fn.body, Nat.ble lent.length 64 with
      | none, _ | _, false => none
      | some c, true =>
        match denC E (den E k) f lent.length k c (entry args lent) with
        | some (.normal, S) | some (.ret, S) => finish E.P fn lent.length S
        | _ => none
end Go.Den

/- Den, part B: what a value of the machine tells (Rep), and how that stays. -/
namespace Go.Den

/-! ### cells by block -/
theorem cell_of_heap {w : World} {g o : Nat} {cur : Array Value} {t : TypeId} {fz : Nat × Nat} (h : w.heap[g]? = some (.cells cur t fz)) : w.cell? ⟨g, o, none⟩ = cur[o]? := by
  simp [World.cell?, h]
theorem cell_congr {w w' : World} {g : Nat} (h : w'.heap[g]? = w.heap[g]?) (o : Nat) : w'.cell? ⟨g, o, none⟩ = w.cell? ⟨g, o, none⟩ := by
  simp [World.cell?, h]
theorem cell_lt {w : World} {g o : Nat} {v : Value} (h : w.cell? ⟨g, o, none⟩ = some v) : g < w.heap.size := by
  simp only [World.cell?] at h
  cases hg : w.heap[g]? with
  | none => simp [hg] at h
  | some x => exact (Array.getElem?_eq_some_iff.1 hg).1
theorem add_off (g o j : Nat) : (⟨g, o, none⟩ : Addr).add j = ⟨g, o + j, none⟩ := by
  unfold Addr.add; split <;> simp_all

/-! ### what is only read -/
inductive Rep (w : World) (ok : Nat → Prop) : Value → PV → Prop
  | undef : Rep w ok Go.undef .undef
  | int (k : IntKind) (n : Int) : Rep w ok (.int k n) (.int k n)
  | bool (b : Bool) : Rep w ok (.bool b) (.bool b)
  | str (s : ByteArray) : Rep w ok (.string s) (.str s.data.toList)
  | nils : Rep w ok (.slice none 0 0) .nils
  | sl (a : Option Addr) (c sz : Nat) (xs : List (List PV)) (vs : Nat → Nat → Value) (hc : xs.length ≤ c) (hz : ∀ x ∈ xs, x.length = sz) (hp : ∀ x ∈ xs, ∀ p ∈ x, plainLeaf p = true)
      (hr : ∀ (i : Nat) x (j : Nat) p, xs[i]? = some x → x[j]? = some p → ∃ g o, a = some ⟨g, o, none⟩ ∧ ok g ∧ w.cell? ⟨g, o + (i * sz + j), none⟩ = some (vs i j))
      (hv : ∀ (i : Nat) x (j : Nat) p, xs[i]? = some x → x[j]? = some p → Rep w ok (vs i j) p) : Rep w ok (.slice a xs.length c) (.sl sz xs)
  | nilp : Rep w ok (.pointer none) .nilp
  | pc (a : Addr) (cs : List PV) (vs : Nat → Value) (hp : ∀ p ∈ cs, plainLeaf p = true)
      (hr : ∀ (j : Nat) p, cs[j]? = some p → ∃ g o, a = ⟨g, o, none⟩ ∧ ok g ∧ w.cell? ⟨g, o + j, none⟩ = some (vs j))
      (hv : ∀ (j : Nat) p, cs[j]? = some p → Rep w ok (vs j) p) : Rep w ok (.pointer (some a)) (.pc cs)
  | nilf : Rep w ok .nilFunc .nilf
  | fn (f : FuncId) (caps : Array Value) (cs : List PV) (hl : caps.size = cs.length) (hp : ∀ p ∈ cs, plainLeaf p = true) (hv : ∀ (j : Nat) v p, caps[j]? = some v → cs[j]? = some p → Rep w ok v p) : Rep w ok (.func (.func f) #[] caps) (.fn f cs)
  | agg (cells : Array Value) (cs : List PV) (hl : cells.size = cs.length) (hp : ∀ p ∈ cs, plainLeaf p = true) (hv : ∀ (j : Nat) v p, cells[j]? = some v → cs[j]? = some p → Rep w ok v p) : Rep w ok (.agg cells) (.agg cs)
  | tup (vs : Array Value) (ps : List PV) (hl : vs.size = ps.length) (hv : ∀ (j : Nat) v p, vs[j]? = some v → ps[j]? = some p → Rep w ok v p) : Rep w ok (.tuple vs) (.tup ps)

theorem Rep.mono {w w' : World} {ok ok' : Nat → Prop} (hk : ∀ k, ok k → ok' k ∧ w'.heap[k]? = w.heap[k]?) {v : Value} {p : PV} (h : Rep w ok v p) : Rep w' ok' v p := by
  induction h with
  | undef => exact .undef
  | int => exact .int ..
  | bool => exact .bool ..
  | str => exact .str ..
  | nils => exact .nils
  | sl a c sz xs vs hc hz hp hr hv ih =>
    refine .sl a c sz xs vs hc hz hp (fun i x j p hx hp => ?_) (fun i x j p hx hp => ih i x j p hx hp)
    obtain ⟨g, o, rfl, hg, hcell⟩ := hr i x j p hx hp
    exact ⟨g, o, rfl, (hk g hg).1, by rw [cell_congr (hk g hg).2]; exact hcell⟩
  | nilp => exact .nilp
  | pc a cs vs hp hr hv ih =>
    refine .pc a cs vs hp (fun j p hp => ?_) (fun j p hp => ih j p hp)
    obtain ⟨g, o, rfl, hg, hcell⟩ := hr j p hp
    exact ⟨g, o, rfl, (hk g hg).1, by rw [cell_congr (hk g hg).2]; exact hcell⟩
  | nilf => exact .nilf
  | fn f caps cs hl hp hv ih => exact .fn f caps cs hl hp (fun j v p h1 h2 => ih j v p h1 h2)
  | agg cells cs hl hp hv ih => exact .agg cells cs hl hp (fun j v p h1 h2 => ih j v p h1 h2)
  | tup vs ps hl hv ih => exact .tup vs ps hl (fun j v p h1 h2 => ih j v p h1 h2)

/-- A leaf of what is sealed. -/
theorem Rep.one {w : World} {ok : Nat → Prop} {v : Value} {p : PV} (h : Rep w ok v p) (hp : plainLeaf p = true) : v.oneCell' = true ∧ v.cells = #[v] := by
  cases h <;> simp_all [plainLeaf, Value.oneCell', Value.cells]

/-! ### what slots hold -/
structure Gh where
  V : Nat → Option Value
  B : Nat → Option Nat
  Z : Nat → Nat
  A : Nat → Prop

inductive RepL (w : World) (ok : Nat → Prop) (G : Gh) : Value → PV → Prop
  | pl {v p} (h : Rep w ok v p) (hp : plainLeaf p = true) : RepL w ok G v p
  | h {v d} (h : G.V d = some v) (h1 : v.oneCell' = true) : RepL w ok G v (.h d)
  | pb {d b} (off : Nat) (h : G.B d = some b) : RepL w ok G (.pointer (some ⟨b, off, none⟩)) (.pb d off)
  | pe {d g n c} (i off : Nat) (h : G.V d = some (.slice (some ⟨g, 0, none⟩) n c)) : RepL w ok G (.pointer (some ⟨g, i * G.Z d + off, none⟩)) (.pe d i off)
  | vw {d a n c} (len c' : Nat) (h : G.V d = some (.slice a n c)) (hl : len ≤ n) (hc : len ≤ c') : RepL w ok G (.slice a len c') (.vw d len)

theorem RepL.one {w ok G v p} (h : RepL w ok G v p) : v.oneCell' = true ∧ v.cells = #[v] := by
  cases h with
  | pl h hp => exact h.one hp
  | h h h1 => exact ⟨h1, by cases v <;> simp_all [Value.oneCell', Value.cells]⟩
  | pb => exact ⟨rfl, rfl⟩
  | pe => exact ⟨rfl, rfl⟩
  | vw => exact ⟨rfl, rfl⟩

inductive RepS (w : World) (ok : Nat → Prop) (G : Gh) : Value → PV → Prop
  | undef : RepS w ok G Go.undef .undef
  | leaf {v p} (h : RepL w ok G v p) : RepS w ok G v p
  | agg (cells : Array Value) (cs : List PV) (hl : cells.size = cs.length) (hv : ∀ (j : Nat) v p, cells[j]? = some v → cs[j]? = some p → RepL w ok G v p) : RepS w ok G (.agg cells) (.agg cs)
  | fn (f : FuncId) (caps : Array Value) (cs : List PV) (hl : caps.size = cs.length) (hv : ∀ (j : Nat) v p, caps[j]? = some v → cs[j]? = some p → RepL w ok G v p) : RepS w ok G (.func (.func f) #[] caps) (.fn f cs)
  | tup (vs : Array Value) (ps : List PV) (hl : vs.size = ps.length) (hv : ∀ (j : Nat) v p, vs[j]? = some v → ps[j]? = some p → RepS w ok G v p) : RepS w ok G (.tuple vs) (.tup ps)

/-- What was so stays so. -/
structure Adv (w : World) (ok : Nat → Prop) (G : Gh) (w' : World) (ok' : Nat → Prop) (G' : Gh) : Prop where
  V : ∀ d v, G.V d = some v → G'.V d = some v
  B : ∀ d b, G.B d = some b → G'.B d = some b
  Z : ∀ d, G.V d ≠ none → G'.Z d = G.Z d
  ok : ∀ k, ok k → ok' k ∧ w'.heap[k]? = w.heap[k]?
  A : G'.A = G.A
theorem Adv.refl (w : World) (ok : Nat → Prop) (G : Gh) : Adv w ok G w ok G := ⟨fun _ _ h => h, fun _ _ h => h, fun _ _ => rfl, fun _ h => ⟨h, rfl⟩, rfl⟩
theorem Adv.trans {w ok G w1 ok1 G1 w2 ok2 G2} (h : Adv w ok G w1 ok1 G1) (k : Adv w1 ok1 G1 w2 ok2 G2) : Adv w ok G w2 ok2 G2 :=
  ⟨fun d v hv => k.V d v (h.V d v hv), fun d b hb => k.B d b (h.B d b hb), fun d hd => by
    cases hv : G.V d with
    | none => exact absurd hv hd
    | some v => rw [k.Z d (by rw [h.V d v hv]; simp), h.Z d hd],
   fun x hx => ⟨(k.ok x (h.ok x hx).1).1, (k.ok x (h.ok x hx).1).2.trans (h.ok x hx).2⟩, k.A.trans h.A⟩
theorem RepL.adv {w ok G w' ok' G' v p} (h : RepL w ok G v p) (ha : Adv w ok G w' ok' G') : RepL w' ok' G' v p := by
  cases h with
  | pl h hp => exact .pl (h.mono ha.ok) hp
  | h h h1 => exact .h (ha.V _ _ h) h1
  | pb off h => exact .pb off (ha.B _ _ h)
  | pe i off h =>
    have := RepL.pe (w := w') (ok := ok') i off (ha.V _ _ h)
    rwa [ha.Z _ (by rw [h]; simp)] at this
  | vw len c' h hl hc => exact .vw len c' (ha.V _ _ h) hl hc
theorem RepS.adv {w ok G w' ok' G' v p} (ha : Adv w ok G w' ok' G') (h : RepS w ok G v p) : RepS w' ok' G' v p := by
  induction h with
  | undef => exact .undef
  | leaf h => exact .leaf (h.adv ha)
  | agg cells cs hl hv => exact .agg cells cs hl fun j v p h1 h2 => (hv j v p h1 h2).adv ha
  | fn f caps cs hl hv => exact .fn f caps cs hl fun j v p h1 h2 => (hv j v p h1 h2).adv ha
  | tup vs ps hl hv ih => exact .tup vs ps hl fun j v p h1 h2 => ih j v p h1 h2

/-- What is sealed is a slot's value, too (as far as its form goes). -/
theorem Rep.S {w ok G v p} (h : Rep w ok v p) (hp : plainLeaf p = true) : RepS w ok G v p := .leaf (.pl h hp)

/-! ### the leaves of a value -/
theorem RepS.leaves {w ok G v p cs} (h : RepS w ok G v p) (hl : leavesO p = some cs) :
    v.cells.size = cs.length ∧ ∀ (j : Nat) u q, v.cells[j]? = some u → cs[j]? = some q → RepL w ok G u q := by
  cases h with
  | undef => simp [leavesO, okLeaf] at hl
  | leaf h =>
    have h1 := h.one
    have hl' : cs = [p] := by
      cases h with
      | pl h hp => cases p <;> simp_all [plainLeaf, leavesO, okLeaf]
      | _ => simp_all [leavesO, okLeaf]
    rw [h1.2, hl']
    refine ⟨rfl, fun j u q hu hq => ?_⟩
    cases j with
    | zero => simp at hu hq; subst hu; subst hq; exact h
    | succ j => simp at hu
  | agg cells ps hl' hv => simp [leavesO] at hl; subst hl; exact ⟨hl', fun j u q hu hq => hv j u q hu hq⟩
  | fn f caps cs => simp [leavesO, okLeaf] at hl
  | tup vs ps => simp [leavesO, okLeaf] at hl
end Go.Den

/- Den, part C: how the machine's world stands to the evaluator's entries; the one law by which both go on. -/
namespace Go.Den

def ownB (G : Gh) (d : Nat) (e : Ent) : Option Nat :=
  match e.own with
  | false => none
  | true => match e.c with | .row .. => (G.V d).bind Value.ownBlock | .box _ => G.B d
/-- Nobody's own; and, of these, those that may be read. -/
def frP (w : World) (m : Nat → Option Ent) (G : Gh) (k : Nat) : Prop := k < w.heap.size ∧ ∀ d e, m d = some e → ownB G d e ≠ some k
def okP (w : World) (m : Nat → Option Ent) (G : Gh) (k : Nat) : Prop := G.A k ∧ frP w m G k
def noFz (fz : Nat × Nat) (n : Nat) : Prop := fz.1 = fz.2 ∨ n ≤ fz.1
theorem noFz.out {fz : Nat × Nat} {n : Nat} (h : noFz fz n) {o : Nat} (ho : o < n) : ¬ (fz.1 ≤ o ∧ o < fz.2) := by
  rcases h with h | h <;> omega
theorem noFz_zero (n : Nat) : noFz (0, 0) n := .inl rfl

def RowAt (w : World) (ok : Nat → Prop) (v : Value) (e : TypeId) (sz : Nat) (xs : List (List PV)) : Prop :=
  (v = .slice none 0 0 ∧ xs = []) ∨ ∃ g c cur fz, v = .slice (some ⟨g, 0, none⟩) xs.length c ∧ w.heap[g]? = some (.cells cur e fz) ∧ xs.length ≤ c ∧ c * sz ≤ cur.size ∧ noFz fz cur.size ∧
    (∀ x ∈ xs, x.length = sz) ∧ (∀ x ∈ xs, ∀ p ∈ x, plainLeaf p = true) ∧ ∀ (i : Nat) x (j : Nat) p, xs[i]? = some x → x[j]? = some p → ∃ u, cur[i * sz + j]? = some u ∧ Rep w ok u p
def BoxAt (w : World) (ok : Nat → Prop) (G : Gh) (b : Nat) (cs : List PV) : Prop :=
  ∃ cur t fz, w.heap[b]? = some (.cells cur t fz) ∧ cur.size = cs.length ∧ noFz fz cur.size ∧ ∀ (j : Nat) p, cs[j]? = some p → ∃ u, cur[j]? = some u ∧ RepL w ok G u p
def EntOk (w : World) (ok : Nat → Prop) (G : Gh) (d : Nat) : Ent → Prop
  | ⟨true, .row e sz xs⟩ => ∃ v, G.V d = some v ∧ G.Z d = sz ∧ RowAt w ok v e sz xs
  | ⟨false, .row _ sz xs⟩ => ∃ v, G.V d = some v ∧ G.Z d = sz ∧ Rep w ok v (.sl sz xs) ∧ (xs ≠ [] → ∃ g c, v = .slice (some ⟨g, 0, none⟩) xs.length c)
  | ⟨true, .box cs⟩ => ∃ b, G.B d = some b ∧ BoxAt w ok G b cs
  | ⟨false, .box cs⟩ => ∃ b, G.B d = some b ∧ ∀ (j : Nat) p, cs[j]? = some p → ok b ∧ ∃ u, w.cell? ⟨b, j, none⟩ = some u ∧ RepL w ok G u p

theorem RowAt.mono {w w' : World} {ok ok' : Nat → Prop} {v e sz xs} (h : RowAt w ok v e sz xs) (hk : ∀ k, ok k → ok' k ∧ w'.heap[k]? = w.heap[k]?) (hg : ∀ k, v.ownBlock = some k → w'.heap[k]? = w.heap[k]?) : RowAt w' ok' v e sz xs := by
  rcases h with h | ⟨g, c, cur, fz, rfl, h1, h2, h3, h4, h5, h6, h7⟩
  · exact .inl h
  · refine .inr ⟨g, c, cur, fz, rfl, (hg g (by simp [Value.ownBlock])).trans h1, h2, h3, h4, h5, h6, fun i x j p hx hp => ?_⟩
    obtain ⟨u, hu, hr⟩ := h7 i x j p hx hp
    exact ⟨u, hu, hr.mono hk⟩
theorem EntOk.adv {w w' ok ok' G G' d e} (h : EntOk w ok G d e) (ha : Adv w ok G w' ok' G') (hg : ∀ k, ownB G d e = some k → w'.heap[k]? = w.heap[k]?) : EntOk w' ok' G' d e := by
  obtain ⟨own, c⟩ := e
  cases own <;> cases c with
  | row e sz xs =>
    obtain ⟨v, hv, hz, hr⟩ := h
    refine ⟨v, ha.V d v hv, (ha.Z d (by rw [hv]; simp)).trans hz, ?_⟩
    first
      | exact ⟨hr.1.mono ha.ok, hr.2⟩
      | exact hr.mono ha.ok (fun k hk => hg k (by simp [ownB, hv, hk]))
  | box cs =>
    obtain ⟨b, hb, hr⟩ := h
    refine ⟨b, ha.B d b hb, ?_⟩
    first
      | (intro j p hp
         obtain ⟨hok, u, hu, hrep⟩ := hr j p hp
         exact ⟨(ha.ok b hok).1, u, by rw [cell_congr (ha.ok b hok).2]; exact hu, hrep.adv ha⟩)
      | (obtain ⟨cur, t, fz, h1, h2, h3, h4⟩ := hr
         exact ⟨cur, t, fz, (hg b (by simp [ownB, hb])).trans h1, h2, h3, fun j p hp => let ⟨u, hu, hrep⟩ := h4 j p hp; ⟨u, hu, hrep.adv ha⟩⟩)

/-- Nothing that was there before the call has changed, but for what was lent. -/
structure Kept (w0 w : World) (bl : List Nat) : Prop where
  os : w.os = w0.os
  tape : w.tape = w0.tape
  output : w.output = w0.output
  size : w0.heap.size ≤ w.heap.size
  same : ∀ k, k < w0.heap.size → k ∉ bl → w.heap[k]? = w0.heap[k]?
theorem Kept.refl (w : World) (bl : List Nat) : Kept w w bl := ⟨rfl, rfl, rfl, Nat.le_refl _, fun _ _ _ => rfl⟩

structure RelW (w0 : World) (bl : List Nat) (D : Nat → Prop) (w : World) (m : Nat → Option Ent) (G : Gh) : Prop where
  ent : ∀ d e, m d = some e → EntOk w (okP w m G) G d e
  sep : ∀ d d' e e' k, m d = some e → m d' = some e' → ownB G d e = some k → ownB G d' e' = some k → d = d'
  dom : ∀ d, G.V d ≠ none ∨ G.B d ≠ none → D d
  new : ∀ d e k, m d = some e → ownB G d e = some k → w0.heap.size ≤ k ∨ k ∈ bl
  kept : Kept w0 w bl
  lent : ∀ (j : Nat) b, bl[j]? = some b → G.B (lentId j) = some b
  all : ∀ k, w0.heap.size ≤ k ∨ k ∈ bl → G.A k

theorem EntOk.lt {w ok G d e k} (h : EntOk w ok G d e) (ho : ownB G d e = some k) : k < w.heap.size := by
  obtain ⟨own, c⟩ := e
  cases own with
  | false => simp [ownB] at ho
  | true =>
    cases c with
    | row e sz xs =>
      obtain ⟨v, hv, hz, hr⟩ := h
      simp only [ownB, hv, Option.bind_some] at ho
      rcases hr with ⟨rfl, _⟩ | ⟨g, c, cur, fz, rfl, h1, _⟩
      · simp [Value.ownBlock] at ho
      · simp only [Value.ownBlock, Option.some.injEq] at ho
        subst ho
        exact (Array.getElem?_eq_some_iff.1 h1).1
    | box cs =>
      obtain ⟨b, hb, cur, t, fz, h1, _⟩ := h
      simp only [ownB, hb, Option.some.injEq] at ho
      subst ho
      exact (Array.getElem?_eq_some_iff.1 h1).1

/-- THE ONE LAW: the entries in U change, the others stay. -/
theorem RelW.step {w0 bl D w m G} (h : RelW w0 bl D w m G) (U : Nat → Prop) {w' : World} {m' : Nat → Option Ent} {G' : Gh} {D' : Nat → Prop}
    (hV : ∀ d, D d → G'.V d = G.V d ∧ G'.B d = G.B d ∧ G'.Z d = G.Z d) (hD : ∀ d, D d → D' d) (hdom : ∀ d, ¬ D d → G'.V d ≠ none ∨ G'.B d ≠ none → D' d)
    (hos : w'.os = w.os) (htape : w'.tape = w.tape) (hout : w'.output = w.output) (hsize : w.heap.size ≤ w'.heap.size)
    (hA : G'.A = G.A) (hX : ∀ k, frP w m G k → w'.heap[k]? = w.heap[k]?)
    (hm : ∀ d, ¬ U d → m' d = m d)
    (hother : ∀ d e, ¬ U d → m d = some e → ∀ k, ownB G d e = some k → w'.heap[k]? = w.heap[k]?)
    (hnewown : ∀ d e k, U d → m' d = some e → ownB G' d e = some k → ¬ frP w m G k ∧ (∀ d1 e1, ¬ U d1 → m d1 = some e1 → ownB G d1 e1 ≠ some k) ∧ (w0.heap.size ≤ k ∨ k ∈ bl))
    (hsep : ∀ d d' e e' k, U d → U d' → m' d = some e → m' d' = some e' → ownB G' d e = some k → ownB G' d' e' = some k → d = d')
    (hent : Adv w (okP w m G) G w' (okP w' m' G') G' → ∀ d e, U d → m' d = some e → EntOk w' (okP w' m' G') G' d e) :
    RelW w0 bl D' w' m' G' ∧ Adv w (okP w m G) G w' (okP w' m' G') G' := by
  have hDm : ∀ d e, m d = some e → D d := fun d e he => h.dom d (by
    have := h.ent d e he
    obtain ⟨own, c⟩ := e
    cases own <;> cases c <;> obtain ⟨x, hx, _⟩ := this <;> simp [hx])
  have hoB : ∀ d e, m d = some e → ownB G' d e = ownB G d e := fun d e he => by
    obtain ⟨h1, h2, _⟩ := hV d (hDm d e he)
    simp [ownB, h1, h2]
  have hadv : Adv w (okP w m G) G w' (okP w' m' G') G' := by
    refine ⟨fun d v hv => ?_, fun d b hb => ?_, fun d hd => (hV d (h.dom d (.inl hd))).2.2, fun k hk => ⟨⟨by rw [hA]; exact hk.1, Nat.lt_of_lt_of_le hk.2.1 hsize, fun d e he ho => ?_⟩, hX k hk.2⟩, hA⟩
    · rw [(hV d (h.dom d (.inl (by rw [hv]; simp)))).1]; exact hv
    · rw [(hV d (h.dom d (.inr (by rw [hb]; simp)))).2.1]; exact hb
    · by_cases hu : U d
      · exact (hnewown d e k hu he ho).1 hk.2
      · rw [hm d hu] at he
        rw [hoB d e he] at ho
        exact hk.2.2 d e he ho
  refine ⟨⟨fun d e he => ?_, fun d d' e e' k he he' ho ho' => ?_, fun d hd => ?_, fun d e k he ho => ?_, ⟨hos.trans h.kept.os, htape.trans h.kept.tape, hout.trans h.kept.output, Nat.le_trans h.kept.size hsize, fun k hk hb => ?_⟩, fun j b hj => hadv.B _ _ (h.lent j b hj), fun k hk => by rw [hA]; exact h.all k hk⟩, hadv⟩
  · by_cases hu : U d
    · exact hent hadv d e hu he
    · rw [hm d hu] at he
      exact (h.ent d e he).adv hadv (hother d e hu he)
  · by_cases hu : U d <;> by_cases hu' : U d'
    · exact hsep d d' e e' k hu hu' he he' ho ho'
    · rw [hm d' hu'] at he'; rw [hoB d' e' he'] at ho'
      exact absurd ho' ((hnewown d e k hu he ho).2.1 d' e' hu' he')
    · rw [hm d hu] at he; rw [hoB d e he] at ho
      exact absurd ho ((hnewown d' e' k hu' he' ho').2.1 d e hu he)
    · rw [hm d hu] at he; rw [hm d' hu'] at he'; rw [hoB d e he] at ho; rw [hoB d' e' he'] at ho'
      exact h.sep d d' e e' k he he' ho ho'
  · by_cases hd' : D d
    · exact hD d hd'
    · exact hdom d hd' hd
  · by_cases hu : U d
    · exact (hnewown d e k hu he ho).2.2
    · rw [hm d hu] at he; rw [hoB d e he] at ho
      exact h.new d e k he ho
  · have : frP w m G k := ⟨Nat.lt_of_lt_of_le hk h.kept.size, fun d e he ho => by
      rcases h.new d e k he ho with h1 | h1
      · omega
      · exact hb h1⟩
    exact (hX k this).trans (h.kept.same k hk hb)

/-- Only what was drawn has changed. -/
theorem RelW.drawn {w0 bl D w m G w'} (h : RelW w0 bl D w m G) (hh : w'.heap = w.heap) (hos : w'.os = w.os) (ht : w'.tape = w.tape) (ho : w'.output = w.output) :
    RelW w0 bl D w' m G ∧ Adv w (okP w m G) G w' (okP w' m G) G :=
  h.step (fun _ => False) (fun _ _ => ⟨rfl, rfl, rfl⟩) (fun _ hd => hd) (fun d _ hd => h.dom d hd) hos ht ho (by rw [hh]; exact Nat.le_refl _) rfl (fun k _ => by rw [hh]) (fun _ _ => rfl) (fun _ _ _ _ _ _ => by rw [hh])
    (fun _ _ _ hu => hu.elim) (fun _ _ _ _ _ hu => hu.elim) (fun _ _ _ hu => hu.elim)
/-- More ids may be thought of. -/
theorem RelW.widen {w0 bl w m G} {D D' : Nat → Prop} (h : RelW w0 bl D w m G) (hD : ∀ d, D d → D' d) : RelW w0 bl D' w m G :=
  ⟨h.ent, h.sep, fun d hd => hD d (h.dom d hd), h.new, h.kept, h.lent, h.all⟩

theorem RelW.free {w0 bl D w m G d} (h : RelW w0 bl D w m G) (hd : ¬ D d) : m d = none ∧ G.V d = none ∧ G.B d = none := by
  have h1 : G.V d = none := Classical.byContradiction fun hc => hd (h.dom d (.inl hc))
  have h2 : G.B d = none := Classical.byContradiction fun hc => hd (h.dom d (.inr hc))
  refine ⟨?_, h1, h2⟩
  cases hm : m d with
  | none => rfl
  | some e =>
    have := h.ent d e hm
    obtain ⟨own, c⟩ := e
    cases own <;> cases c <;> obtain ⟨x, hx, _⟩ := this <;> simp_all

def upd {α : Type} (f : Nat → α) (d : Nat) (x : α) : Nat → α := fun i => if i = d then x else f i
theorem upd_eq {α : Type} (f : Nat → α) (d : Nat) (x : α) : upd f d x d = x := by simp [upd]
theorem upd_ne {α : Type} (f : Nat → α) {d i : Nat} (x : α) (h : i ≠ d) : upd f d x i = f i := by simp [upd, h]

/-- A new block for a new id. -/
def Gh.withV (G : Gh) (d : Nat) (v : Value) (z : Nat) : Gh := { V := upd G.V d (some v), B := G.B, Z := upd G.Z d z, A := G.A }
def Gh.withB (G : Gh) (d b : Nat) : Gh := { V := G.V, B := upd G.B d (some b), Z := G.Z, A := G.A }

theorem heap_new (w : World) (o : Obj) : (w.alloc o).heap[w.heap.size]? = some o := by
  show (w.heap.push o)[w.heap.size]? = some o
  simp
theorem heap_old (w : World) (o : Obj) {k : Nat} (h : k < w.heap.size) : (w.alloc o).heap[k]? = w.heap[k]? := by
  show (w.heap.push o)[k]? = w.heap[k]?
  simp [Array.getElem?_push, Nat.ne_of_lt h]
theorem size_alloc (w : World) (o : Obj) : (w.alloc o).heap.size = w.heap.size + 1 := by
  show (w.heap.push o).size = _
  simp

/-- A new row. -/
theorem RelW.newRowG {w0 bl D w m G} (h : RelW w0 bl D w m G) {fid : Nat} (hf : ¬ D fid) {D' : Nat → Prop} (hD : ∀ d, D d → D' d) (hD' : D' fid)
    {w' : World} {fz : Nat × Nat} (cur : Array Value) (e sz c : Nat) (xs : List (List PV)) (hnew : w'.heap[w.heap.size]? = some (.cells cur e fz)) (hold : ∀ k, k < w.heap.size → w'.heap[k]? = w.heap[k]?) (hsz : w.heap.size ≤ w'.heap.size) (hos : w'.os = w.os) (htape : w'.tape = w.tape) (hout : w'.output = w.output) (hfz : noFz fz cur.size)
    (hc : xs.length ≤ c) (hcur : c * sz ≤ cur.size) (hz : ∀ x ∈ xs, x.length = sz) (hp : ∀ x ∈ xs, ∀ p ∈ x, plainLeaf p = true)
    (hr : ∀ (i : Nat) x (j : Nat) p, xs[i]? = some x → x[j]? = some p → ∃ u, cur[i * sz + j]? = some u ∧ Rep w (okP w m G) u p) :
    RelW w0 bl D' w' (upd m fid (some ⟨true, .row e sz xs⟩)) (G.withV fid (.slice (some ⟨w.heap.size, 0, none⟩) xs.length c) sz) ∧
    Adv w (okP w m G) G w' (okP w' (upd m fid (some ⟨true, .row e sz xs⟩)) (G.withV fid (.slice (some ⟨w.heap.size, 0, none⟩) xs.length c) sz)) (G.withV fid (.slice (some ⟨w.heap.size, 0, none⟩) xs.length c) sz) := by
  have hne : ∀ d, D d → d ≠ fid := fun d hd he => hf (he ▸ hd)
  refine h.step (fun d => d = fid) (fun d hd => ⟨by simp [Gh.withV, upd_ne _ _ (hne d hd)], rfl, by simp [Gh.withV, upd_ne _ _ (hne d hd)]⟩) hD (fun d hd hv => ?_) hos htape hout hsz rfl (fun k hk => hold k hk.1)
    (fun d hd => upd_ne _ _ hd) (fun d e1 hd he k ho => hold k ((h.ent d e1 he).lt ho)) (fun d e1 k hu he ho => ?_) (fun d d' _ _ _ hu hu' => fun _ _ _ _ => hu.trans hu'.symm) (fun ha d e1 hu he => ?_)
  · by_cases hdf : d = fid
    · exact hdf ▸ hD'
    · have := h.free hd
      simp [Gh.withV, upd_ne _ _ hdf, this] at hv
  · subst hu
    simp only [upd_eq, Option.some.injEq] at he
    subst he
    simp only [ownB, Gh.withV, upd_eq, Option.bind_some, Value.ownBlock, Option.some.injEq] at ho
    subst ho
    exact ⟨fun hk => Nat.lt_irrefl _ hk.1, fun d1 e1 _ h1 ho => Nat.lt_irrefl _ ((h.ent d1 e1 h1).lt ho), .inl h.kept.size⟩
  · subst hu
    simp only [upd_eq, Option.some.injEq] at he
    subst he
    refine ⟨_, by simp [Gh.withV, upd_eq], by simp [Gh.withV, upd_eq], .inr ⟨_, c, cur, fz, rfl, hnew, hc, hcur, hfz, hz, hp, fun i x j p hx hp => ?_⟩⟩
    obtain ⟨u, hu, hrep⟩ := hr i x j p hx hp
    exact ⟨u, hu, hrep.mono ha.ok⟩
theorem RelW.newRow {w0 bl D w m G} (h : RelW w0 bl D w m G) {fid : Nat} (hf : ¬ D fid) {D' : Nat → Prop} (hD : ∀ d, D d → D' d) (hD' : D' fid)
    (cur : Array Value) (e sz c : Nat) (xs : List (List PV)) (hc : xs.length ≤ c) (hcur : c * sz ≤ cur.size) (hz : ∀ x ∈ xs, x.length = sz) (hp : ∀ x ∈ xs, ∀ p ∈ x, plainLeaf p = true)
    (hr : ∀ (i : Nat) x (j : Nat) p, xs[i]? = some x → x[j]? = some p → ∃ u, cur[i * sz + j]? = some u ∧ Rep w (okP w m G) u p) :
    RelW w0 bl D' (w.alloc (.cells cur e (0, 0))) (upd m fid (some ⟨true, .row e sz xs⟩)) (G.withV fid (.slice (some ⟨w.heap.size, 0, none⟩) xs.length c) sz) ∧
    Adv w (okP w m G) G (w.alloc (.cells cur e (0, 0))) (okP (w.alloc (.cells cur e (0, 0))) (upd m fid (some ⟨true, .row e sz xs⟩)) (G.withV fid (.slice (some ⟨w.heap.size, 0, none⟩) xs.length c) sz)) (G.withV fid (.slice (some ⟨w.heap.size, 0, none⟩) xs.length c) sz) :=
  h.newRowG hf hD hD' cur e sz c xs (heap_new w _) (fun _ hk => heap_old w _ hk) (by rw [size_alloc]; exact Nat.le_succ _) rfl rfl rfl (noFz_zero _) hc hcur hz hp hr

/-- A new variable. -/
theorem RelW.newBox {w0 bl D w m G} (h : RelW w0 bl D w m G) {fid : Nat} (hf : ¬ D fid) {D' : Nat → Prop} (hD : ∀ d, D d → D' d) (hD' : D' fid)
    (cur : Array Value) (t : TypeId) (cs : List PV) (hs : cur.size = cs.length)
    (hr : ∀ (j : Nat) p, cs[j]? = some p → ∃ u, cur[j]? = some u ∧ RepL w (okP w m G) G u p) :
    RelW w0 bl D' (w.alloc (.cells cur t (0, 0))) (upd m fid (some ⟨true, .box cs⟩)) (G.withB fid w.heap.size) ∧
    Adv w (okP w m G) G (w.alloc (.cells cur t (0, 0))) (okP (w.alloc (.cells cur t (0, 0))) (upd m fid (some ⟨true, .box cs⟩)) (G.withB fid w.heap.size)) (G.withB fid w.heap.size) := by
  have hne : ∀ d, D d → d ≠ fid := fun d hd he => hf (he ▸ hd)
  refine h.step (fun d => d = fid) (fun d hd => ⟨rfl, by simp [Gh.withB, upd_ne _ _ (hne d hd)], rfl⟩) hD (fun d hd hv => ?_) rfl rfl rfl (by rw [size_alloc]; exact Nat.le_succ _) rfl (fun k hk => heap_old w _ hk.1)
    (fun d hd => upd_ne _ _ hd) (fun d e1 hd he k ho => heap_old w _ ((h.ent d e1 he).lt ho)) (fun d e1 k hu he ho => ?_) (fun d d' _ _ _ hu hu' => fun _ _ _ _ => hu.trans hu'.symm) (fun ha d e1 hu he => ?_)
  · by_cases hdf : d = fid
    · exact hdf ▸ hD'
    · have := h.free hd
      simp [Gh.withB, upd_ne _ _ hdf, this] at hv
  · subst hu
    simp only [upd_eq, Option.some.injEq] at he
    subst he
    simp only [ownB, Gh.withB, upd_eq, Option.some.injEq] at ho
    subst ho
    exact ⟨fun hk => Nat.lt_irrefl _ hk.1, fun d1 e1 _ h1 ho => Nat.lt_irrefl _ ((h.ent d1 e1 h1).lt ho), .inl h.kept.size⟩
  · subst hu
    simp only [upd_eq, Option.some.injEq] at he
    subst he
    refine ⟨w.heap.size, by simp [Gh.withB, upd_eq], cur, t, (0, 0), heap_new w _, hs, noFz_zero _, fun j p hp => ?_⟩
    obtain ⟨u, hu, hrep⟩ := hr j p hp
    exact ⟨u, hu, hrep.adv ha⟩
end Go.Den

/- Den, part D: what an entry may become: frozen, gone, written, moved. -/
namespace Go.Den

/-! ### a run of cells written -/
def arrSet (cur : Array Value) : Nat → List Value → Array Value
  | _, [] => cur
  | o, v :: r => arrSet (cur.setIfInBounds o v) (o + 1) r
theorem arrSet_size : ∀ (vs : List Value) (o : Nat) (cur : Array Value), (arrSet cur o vs).size = cur.size
  | [], _, _ => rfl
  | v :: r, o, cur => by rw [arrSet, arrSet_size r]; simp
theorem arrSet_out : ∀ (vs : List Value) (o : Nat) (cur : Array Value) (i : Nat), (i < o ∨ o + vs.length ≤ i) → (arrSet cur o vs)[i]? = cur[i]?
  | [], _, _, _, _ => rfl
  | v :: r, o, cur, i, h => by
    rw [arrSet, arrSet_out r (o + 1) _ i (by simp at h; omega), Array.getElem?_setIfInBounds_ne (by simp at h; omega)]
theorem arrSet_in : ∀ (vs : List Value) (o : Nat) (cur : Array Value), o + vs.length ≤ cur.size → ∀ j v, vs[j]? = some v → (arrSet cur o vs)[o + j]? = some v
  | v :: r, o, cur, h, 0, u, hu => by
    simp only [List.length_cons] at h
    rw [arrSet, arrSet_out r (o + 1) _ _ (by omega)]
    simp at hu
    subst hu
    simp only [Nat.add_zero]
    rw [Array.getElem?_setIfInBounds_self_of_lt (by omega)]
  | v :: r, o, cur, h, j + 1, u, hu => by
    simp only [List.length_cons] at h
    rw [arrSet, show o + (j + 1) = o + 1 + j by omega]
    exact arrSet_in r (o + 1) _ (by simp; omega) j u (by simpa using hu)

theorem setCell_heap_same {w : World} {b o : Nat} {v : Value} {cur t fz} (h : w.heap[b]? = some (.cells cur t fz)) : (w.setCell ⟨b, o, none⟩ v).heap[b]? = some (.cells (cur.setIfInBounds o v) t fz) := by
  simp [World.setCell, Array.getElem?_modify, h]
theorem setCell_heap_other {w : World} {b o k : Nat} {v : Value} (h : k ≠ b) : (w.setCell ⟨b, o, none⟩ v).heap[k]? = w.heap[k]? := by
  simp [World.setCell, Array.getElem?_modify, h.symm]
theorem setCell_size {w : World} {a : Addr} {v : Value} : (w.setCell a v).heap.size = w.heap.size := by
  simp [World.setCell]
theorem setCells_same : ∀ (vs : List Value) (w : World) (b o : Nat) {cur t fz}, w.heap[b]? = some (.cells cur t fz) → (w.setCells b o vs).heap[b]? = some (.cells (arrSet cur o vs) t fz)
  | [], _, _, _, _, _, _, h => h
  | v :: r, w, b, o, _, _, _, h => setCells_same r (w.setCell ⟨b, o, none⟩ v) b (o + 1) (setCell_heap_same h)
theorem setCells_other : ∀ (vs : List Value) (w : World) (b o k : Nat), k ≠ b → (w.setCells b o vs).heap[k]? = w.heap[k]?
  | [], _, _, _, _, _ => rfl
  | v :: r, w, b, o, k, h => (setCells_other r (w.setCell ⟨b, o, none⟩ v) b (o + 1) k h).trans (setCell_heap_other h)
theorem setCells_rest : ∀ (vs : List Value) (w : World) (b o : Nat), (w.setCells b o vs).heap.size = w.heap.size ∧ (w.setCells b o vs).os = w.os ∧ (w.setCells b o vs).tape = w.tape ∧ (w.setCells b o vs).output = w.output
  | [], _, _, _ => ⟨rfl, rfl, rfl, rfl⟩
  | v :: r, w, b, o => by
    obtain ⟨h1, h2, h3, h4⟩ := setCells_rest r (w.setCell ⟨b, o, none⟩ v) b (o + 1)
    exact ⟨h1.trans setCell_size, h2, h3, h4⟩

/-! ### frozen -/
/-- A row of one's own, read. -/
theorem RowAt.reads {w ok ok' v e sz xs} (h : RowAt w ok v e sz xs) (hk : ∀ k, ok k → ok' k) (hg : ∀ k, v.ownBlock = some k → ok' k) : Rep w ok' v (.sl sz xs) := by
  rcases h with ⟨rfl, rfl⟩ | ⟨g, c, cur, fz, rfl, h1, h2, h3, h4, h5, h6, h7⟩
  · exact .sl none 0 sz [] (fun _ _ => Go.undef) (Nat.le_refl _) (by simp) (by simp) (by simp) (by simp)
  · refine .sl _ c sz xs (fun i j => (cur[i * sz + j]?).getD Go.undef) h2 h5 h6 (fun i x j p hx hp => ?_) (fun i x j p hx hp => ?_)
    · obtain ⟨u, hu, _⟩ := h7 i x j p hx hp
      refine ⟨g, 0, rfl, hg g (by simp [Value.ownBlock]), ?_⟩
      rw [cell_of_heap h1, Nat.zero_add, hu]; simp
    · obtain ⟨u, hu, hr⟩ := h7 i x j p hx hp
      rw [hu]
      exact hr.mono (fun k hk' => ⟨hk k hk', rfl⟩)

theorem RelW.freeze {w0 bl D w m G d e} (h : RelW w0 bl D w m G) (hd : m d = some e) :
    RelW w0 bl D w (upd m d (some ⟨false, e.c⟩)) G ∧ Adv w (okP w m G) G w (okP w (upd m d (some ⟨false, e.c⟩)) G) G := by
  refine h.step (fun x => x = d) (fun _ _ => ⟨rfl, rfl, rfl⟩) (fun _ h => h) (fun x hx hv => absurd (h.dom x hv) hx) rfl rfl rfl (Nat.le_refl _) rfl (fun _ _ => rfl) (fun x hx => upd_ne _ _ hx) (fun _ _ _ _ _ _ => rfl)
    (fun x e1 k hu he ho => ?_) (fun _ _ _ _ _ hu hu' _ _ _ _ => hu.trans hu'.symm) (fun ha x e1 hu he => ?_)
  · subst hu
    simp only [upd_eq, Option.some.injEq] at he
    subst he
    simp [ownB] at ho
  · subst hu
    simp only [upd_eq, Option.some.injEq] at he
    subst he
    have hx := h.ent x e hd
    have hin : ∀ k, ownB G x e = some k → okP w (upd m x (some ⟨false, e.c⟩)) G k := fun k hk => ⟨h.all k (h.new x e k hd hk), hx.lt hk, fun x1 e1 h1 ho => by
      by_cases h2 : x1 = x
      · subst h2
        simp only [upd_eq, Option.some.injEq] at h1
        subst h1
        simp [ownB] at ho
      · rw [upd_ne _ _ h2] at h1
        exact h2 (h.sep x1 x e1 e k h1 hd ho hk)⟩
    obtain ⟨own, c⟩ := e
    cases own <;> cases c with
    | row e sz xs =>
      first
        | exact hx.adv ha (fun _ _ => rfl)
        | (obtain ⟨v, hv, hz, hr⟩ := hx
           refine ⟨v, hv, hz, hr.reads (fun k hk => (ha.ok k hk).1) (fun k hk => hin k (by simp [ownB, hv, hk])), fun hne => ?_⟩
           rcases hr with ⟨_, h0⟩ | ⟨g, c, _, _, h1, _⟩
           · exact absurd h0 hne
           · exact ⟨g, c, h1⟩)
    | box cs =>
      first
        | exact hx.adv ha (fun _ _ => rfl)
        | (obtain ⟨b, hb, cur, t, fz, h1, h2, h3, h4⟩ := hx
           refine ⟨b, hb, fun j p hp => ⟨hin b (by simp [ownB, hb]), ?_⟩⟩
           obtain ⟨u, hu, hr⟩ := h4 j p hp
           exact ⟨u, by rw [cell_of_heap h1, hu], hr.adv ha⟩)

/-! ### gone -/
theorem RelW.gone {w0 bl D w m G} (h : RelW w0 bl D w m G) (d : Nat) : RelW w0 bl D w (upd m d none) G ∧ Adv w (okP w m G) G w (okP w (upd m d none) G) G :=
  h.step (fun x => x = d) (fun _ _ => ⟨rfl, rfl, rfl⟩) (fun _ h => h) (fun x hx hv => absurd (h.dom x hv) hx) rfl rfl rfl (Nat.le_refl _) rfl (fun _ _ => rfl) (fun x hx => upd_ne _ _ hx) (fun _ _ _ _ _ _ => rfl)
    (fun x e1 k hu he ho => by subst hu; simp [upd_eq] at he) (fun _ _ _ _ _ hu hu' _ _ _ _ => hu.trans hu'.symm) (fun ha x e1 hu he => by subst hu; simp [upd_eq] at he)

/-! ### a variable written -/
theorem RelW.boxSet {w0 bl D w m G d cs b cur t fz} (h : RelW w0 bl D w m G) (hd : m d = some ⟨true, .box cs⟩) (hb : G.B d = some b) (hh : w.heap[b]? = some (.cells cur t fz)) (hz : noFz fz cur.size)
    (o : Nat) (vs : List Value) (cs' : List PV) (hl : cs'.length = cs.length) (hc : cur.size = cs.length)
    (hr : ∀ (j : Nat) p, cs'[j]? = some p → ∃ u, (arrSet cur o vs)[j]? = some u ∧ RepL w (okP w m G) G u p) :
    RelW w0 bl D (w.setCells b o vs) (upd m d (some ⟨true, .box cs'⟩)) G ∧ Adv w (okP w m G) G (w.setCells b o vs) (okP (w.setCells b o vs) (upd m d (some ⟨true, .box cs'⟩)) G) G := by
  obtain ⟨r1, r2, r3, r4⟩ := setCells_rest vs w b o
  have hown : ownB G d ⟨true, .box cs⟩ = some b := by simp [ownB, hb]
  refine h.step (fun x => x = d) (fun _ _ => ⟨rfl, rfl, rfl⟩) (fun _ h => h) (fun x hx hv => absurd (h.dom x hv) hx) r2 r3 r4 (by rw [r1]; exact Nat.le_refl _) rfl (fun k hk => setCells_other _ _ _ _ _ (fun he => hk.2 d _ hd (he ▸ hown))) (fun x hx => upd_ne _ _ hx)
    (fun x e1 hx he k ho => setCells_other _ _ _ _ _ (fun hkb => hx (h.sep x d e1 _ b he hd (hkb ▸ ho) hown)))
    (fun x e1 k hu he ho => ?_) (fun _ _ _ _ _ hu hu' _ _ _ _ => hu.trans hu'.symm) (fun ha x e1 hu he => ?_)
  · subst hu
    simp only [upd_eq, Option.some.injEq] at he
    subst he
    simp only [ownB, hb, Option.some.injEq] at ho
    subst ho
    exact ⟨fun hk => hk.2 x _ hd hown, fun x1 e1 hx1 h1 ho1 => hx1 (h.sep x1 x e1 _ _ h1 hd ho1 hown), h.new x _ _ hd hown⟩
  · subst hu
    simp only [upd_eq, Option.some.injEq] at he
    subst he
    refine ⟨b, hb, _, t, fz, setCells_same vs w b o hh, by rw [arrSet_size, hc, hl], by rw [arrSet_size]; exact hz, fun j p hp => ?_⟩
    obtain ⟨u, hu, hrep⟩ := hr j p hp
    exact ⟨u, hu, hrep.adv ha⟩

/-! ### a row written, in its own place -/
theorem RelW.rowSet {w0 bl D w m G d e sz xs g n c cur fz} (h : RelW w0 bl D w m G) (hd : m d = some ⟨true, .row e sz xs⟩) (hv : G.V d = some (.slice (some ⟨g, 0, none⟩) n c)) (hh : w.heap[g]? = some (.cells cur e fz)) (hfz : noFz fz cur.size)
    (o : Nat) (vs : List Value) (xs' : List (List PV)) (hn : xs'.length = n) (hc : n ≤ c) (hcur : c * sz ≤ cur.size) (hz : ∀ x ∈ xs', x.length = sz) (hp : ∀ x ∈ xs', ∀ p ∈ x, plainLeaf p = true) (hzd : G.Z d = sz)
    (hr : ∀ (i : Nat) x (j : Nat) p, xs'[i]? = some x → x[j]? = some p → ∃ u, (arrSet cur o vs)[i * sz + j]? = some u ∧ Rep w (okP w m G) u p) :
    RelW w0 bl D (w.setCells g o vs) (upd m d (some ⟨true, .row e sz xs'⟩)) G ∧ Adv w (okP w m G) G (w.setCells g o vs) (okP (w.setCells g o vs) (upd m d (some ⟨true, .row e sz xs'⟩)) G) G := by
  obtain ⟨r1, r2, r3, r4⟩ := setCells_rest vs w g o
  have hown : ∀ ys, ownB G d ⟨true, .row e sz ys⟩ = some g := fun ys => by simp [ownB, hv, Value.ownBlock]
  refine h.step (fun x => x = d) (fun _ _ => ⟨rfl, rfl, rfl⟩) (fun _ h => h) (fun x hx hv => absurd (h.dom x hv) hx) r2 r3 r4 (by rw [r1]; exact Nat.le_refl _) rfl (fun k hk => setCells_other _ _ _ _ _ (fun he => hk.2 d _ hd (he ▸ hown xs))) (fun x hx => upd_ne _ _ hx)
    (fun x e1 hx he k ho => setCells_other _ _ _ _ _ (fun hkb => hx (h.sep x d e1 _ g he hd (hkb ▸ ho) (hown xs))))
    (fun x e1 k hu he ho => ?_) (fun _ _ _ _ _ hu hu' _ _ _ _ => hu.trans hu'.symm) (fun ha x e1 hu he => ?_)
  · subst hu
    simp only [upd_eq, Option.some.injEq] at he
    subst he
    rw [hown] at ho
    simp only [Option.some.injEq] at ho
    subst ho
    exact ⟨fun hk => hk.2 x _ hd (hown xs), fun x1 e1 hx1 h1 ho1 => hx1 (h.sep x1 x e1 _ _ h1 hd ho1 (hown xs)), h.new x _ _ hd (hown xs)⟩
  · subst hu
    simp only [upd_eq, Option.some.injEq] at he
    subst he
    refine ⟨_, hv, hzd, .inr ⟨g, c, _, fz, by rw [hn], setCells_same vs w g o hh, by rw [hn]; exact hc, by rw [arrSet_size]; exact hcur, by rw [arrSet_size]; exact hfz, hz, hp, fun i x j p hx hp => ?_⟩⟩
    obtain ⟨u, hu, hrep⟩ := hr i x j p hx hp
    exact ⟨u, hu, hrep.mono ha.ok⟩

/-! ### a row that goes on under another id, written or not: an append in place, a clip -/
theorem RelW.rowMove {w0 bl D w m G d e sz xs g n c cur fz} (h : RelW w0 bl D w m G) {fid : Nat} (hf : ¬ D fid) {D' : Nat → Prop} (hD : ∀ d, D d → D' d) (hD' : D' fid)
    (hd : m d = some ⟨true, .row e sz xs⟩) (hv : G.V d = some (.slice (some ⟨g, 0, none⟩) n c)) (hh : w.heap[g]? = some (.cells cur e fz)) (hfz : noFz fz cur.size)
    (o : Nat) (vs : List Value) (xs' : List (List PV)) (c' : Nat) (hc : xs'.length ≤ c') (hcur : c' * sz ≤ cur.size) (hz : ∀ x ∈ xs', x.length = sz) (hp : ∀ x ∈ xs', ∀ p ∈ x, plainLeaf p = true)
    (hr : ∀ (i : Nat) x (j : Nat) p, xs'[i]? = some x → x[j]? = some p → ∃ u, (arrSet cur o vs)[i * sz + j]? = some u ∧ Rep w (okP w m G) u p) :
    RelW w0 bl D' (w.setCells g o vs) (upd (upd m d none) fid (some ⟨true, .row e sz xs'⟩)) (G.withV fid (.slice (some ⟨g, 0, none⟩) xs'.length c') sz) ∧
    Adv w (okP w m G) G (w.setCells g o vs) (okP (w.setCells g o vs) (upd (upd m d none) fid (some ⟨true, .row e sz xs'⟩)) (G.withV fid (.slice (some ⟨g, 0, none⟩) xs'.length c') sz)) (G.withV fid (.slice (some ⟨g, 0, none⟩) xs'.length c') sz) := by
  obtain ⟨r1, r2, r3, r4⟩ := setCells_rest vs w g o
  have hown : ownB G d ⟨true, .row e sz xs⟩ = some g := by simp [ownB, hv, Value.ownBlock]
  have hne : ∀ d, D d → d ≠ fid := fun d hd he => hf (he ▸ hd)
  have hdD : D d := h.dom d (.inl (by rw [hv]; simp))
  refine h.step (fun x => x = d ∨ x = fid) (fun x hx => ⟨by simp [Gh.withV, upd_ne _ _ (hne x hx)], rfl, by simp [Gh.withV, upd_ne _ _ (hne x hx)]⟩) hD (fun x hx hv' => ?_) r2 r3 r4 (by rw [r1]; exact Nat.le_refl _) rfl (fun k hk => setCells_other _ _ _ _ _ (fun he => hk.2 d _ hd (he ▸ hown)))
    (fun x hx => by rw [upd_ne _ _ (fun h => hx (.inr h)), upd_ne _ _ (fun h => hx (.inl h))])
    (fun x e1 hx he k ho => setCells_other _ _ _ _ _ (fun hkb => hx (.inl (h.sep x d e1 _ g he hd (hkb ▸ ho) hown))))
    (fun x e1 k hu he ho => ?_) (fun x x' e1 e1' k hu hu' he he' _ _ => ?_) (fun ha x e1 hu he => ?_)
  · by_cases hxf : x = fid
    · exact hxf ▸ hD'
    · have := h.free hx
      simp [Gh.withV, upd_ne _ _ hxf, this] at hv'
  · have hx : x = fid := by
      rcases hu with rfl | rfl
      · rw [upd_ne _ _ (hne _ hdD), upd_eq] at he; cases he
      · rfl
    subst hx
    simp only [upd_eq, Option.some.injEq] at he
    subst he
    simp only [ownB, Gh.withV, upd_eq, Option.bind_some, Value.ownBlock, Option.some.injEq] at ho
    subst ho
    exact ⟨fun hk => hk.2 d _ hd hown, fun x1 e1 hx1 h1 ho1 => hx1 (.inl (h.sep x1 d e1 _ _ h1 hd ho1 hown)), h.new d _ _ hd hown⟩
  · have aux : ∀ y ey, (y = d ∨ y = fid) → upd (upd m d none) fid (some ⟨true, .row e sz xs'⟩) y = some ey → y = fid := fun y ey hy hey => by
      rcases hy with rfl | rfl
      · rw [upd_ne _ _ (hne _ hdD), upd_eq] at hey; cases hey
      · rfl
    exact (aux x e1 hu he).trans (aux x' e1' hu' he').symm
  · have hx : x = fid := by
      rcases hu with rfl | rfl
      · rw [upd_ne _ _ (hne _ hdD), upd_eq] at he; cases he
      · rfl
    subst hx
    simp only [upd_eq, Option.some.injEq] at he
    subst he
    refine ⟨_, by simp [Gh.withV, upd_eq], by simp [Gh.withV, upd_eq], .inr ⟨g, c', _, fz, rfl, setCells_same vs w g o hh, hc, by rw [arrSet_size]; exact hcur, by rw [arrSet_size]; exact hfz, hz, hp, fun i x j p hx hp => ?_⟩⟩
    obtain ⟨u, hu, hrep⟩ := hr i x j p hx hp
    exact ⟨u, hu, hrep.mono ha.ok⟩
/-- A row rewritten by a call: in its place, or under another id. -/
theorem RelW.rowRw {w0 bl D w m G d e sz xs v} (h : RelW w0 bl D w m G) (hd : m d = some ⟨true, .row e sz xs⟩) (hv : G.V d = some v) (hzd : G.Z d = sz) {w' : World} {ys : List (List PV)}
    (q1 : w'.os = w.os) (q2 : w'.tape = w.tape) (q3 : w'.output = w.output) (q4 : w.heap.size ≤ w'.heap.size) (q5 : ∀ k, k < w.heap.size → v.ownBlock ≠ some k → w'.heap[k]? = w.heap[k]?) (hr : RowAt w' (okP w m G) v e sz ys) :
    RelW w0 bl D w' (upd m d (some ⟨true, .row e sz ys⟩)) G ∧ Adv w (okP w m G) G w' (okP w' (upd m d (some ⟨true, .row e sz ys⟩)) G) G := by
  have hown : ∀ zs, ownB G d ⟨true, .row e sz zs⟩ = v.ownBlock := fun zs => by simp [ownB, hv]
  refine h.step (fun x => x = d) (fun _ _ => ⟨rfl, rfl, rfl⟩) (fun _ h => h) (fun x hx hv => absurd (h.dom x hv) hx) q1 q2 q3 q4 rfl (fun k hk => q5 k hk.1 (fun he => hk.2 d _ hd ((hown xs).trans he))) (fun x hx => upd_ne _ _ hx)
    (fun x e1 hx he k ho => q5 k ((h.ent x e1 he).lt ho) (fun hkb => hx (h.sep x d e1 _ k he hd ho ((hown xs).trans hkb))))
    (fun x e1 k hu he ho => ?_) (fun _ _ _ _ _ hu hu' _ _ _ _ => hu.trans hu'.symm) (fun ha x e1 hu he => ?_)
  · subst hu
    simp only [upd_eq, Option.some.injEq] at he
    subst he
    rw [hown] at ho
    exact ⟨fun hk => hk.2 x _ hd ((hown xs).trans ho), fun x1 e1 hx1 h1 ho1 => hx1 (h.sep x1 x e1 _ _ h1 hd ho1 ((hown xs).trans ho)), h.new x _ _ hd ((hown xs).trans ho)⟩
  · subst hu
    simp only [upd_eq, Option.some.injEq] at he
    subst he
    exact ⟨_, hv, hzd, hr.mono (fun k hk => ⟨(ha.ok k hk).1, rfl⟩) (fun _ _ => rfl)⟩
theorem RelW.rowRwMove {w0 bl D w m G d e sz xs v v'} (h : RelW w0 bl D w m G) {fid : Nat} (hf : ¬ D fid) {D' : Nat → Prop} (hD : ∀ d, D d → D' d) (hD' : D' fid)
    (hd : m d = some ⟨true, .row e sz xs⟩) (hv : G.V d = some v) {w' : World} {ys : List (List PV)}
    (q1 : w'.os = w.os) (q2 : w'.tape = w.tape) (q3 : w'.output = w.output) (q4 : w.heap.size ≤ w'.heap.size) (q5 : ∀ k, k < w.heap.size → v.ownBlock ≠ some k → w'.heap[k]? = w.heap[k]?) (hb : v'.ownBlock = v.ownBlock) (hr : RowAt w' (okP w m G) v' e sz ys) :
    RelW w0 bl D' w' (upd (upd m d none) fid (some ⟨true, .row e sz ys⟩)) (G.withV fid v' sz) ∧
    Adv w (okP w m G) G w' (okP w' (upd (upd m d none) fid (some ⟨true, .row e sz ys⟩)) (G.withV fid v' sz)) (G.withV fid v' sz) := by
  have hown : ownB G d ⟨true, .row e sz xs⟩ = v.ownBlock := by simp [ownB, hv]
  have hne : ∀ d, D d → d ≠ fid := fun d hd he => hf (he ▸ hd)
  have hdD : D d := h.dom d (.inl (by rw [hv]; simp))
  have aux : ∀ y ey, (y = d ∨ y = fid) → upd (upd m d none) fid (some ⟨true, .row e sz ys⟩) y = some ey → y = fid := fun y ey hy hey => by
    rcases hy with rfl | rfl
    · rw [upd_ne _ _ (hne _ hdD), upd_eq] at hey; cases hey
    · rfl
  refine h.step (fun x => x = d ∨ x = fid) (fun x hx => ⟨by simp [Gh.withV, upd_ne _ _ (hne x hx)], rfl, by simp [Gh.withV, upd_ne _ _ (hne x hx)]⟩) hD (fun x hx hv' => ?_) q1 q2 q3 q4 rfl (fun k hk => q5 k hk.1 (fun he => hk.2 d _ hd (hown.trans he)))
    (fun x hx => by rw [upd_ne _ _ (fun h => hx (.inr h)), upd_ne _ _ (fun h => hx (.inl h))])
    (fun x e1 hx he k ho => q5 k ((h.ent x e1 he).lt ho) (fun hkb => hx (.inl (h.sep x d e1 _ k he hd ho (hown.trans hkb)))))
    (fun x e1 k hu he ho => ?_) (fun x x' e1 e1' k hu hu' he he' _ _ => (aux x e1 hu he).trans (aux x' e1' hu' he').symm) (fun ha x e1 hu he => ?_)
  · by_cases hxf : x = fid
    · exact hxf ▸ hD'
    · have := h.free hx
      simp [Gh.withV, upd_ne _ _ hxf, this] at hv'
  · have hx := aux x e1 hu he
    subst hx
    simp only [upd_eq, Option.some.injEq] at he
    subst he
    have ho' : v.ownBlock = some k := by
      rw [← hb]
      simpa [ownB, Gh.withV, upd_eq] using ho
    exact ⟨fun hk => hk.2 d _ hd (hown.trans ho'), fun x1 e1 hx1 h1 ho1 => hx1 (.inl (h.sep x1 d e1 _ _ h1 hd ho1 (hown.trans ho'))), h.new d _ _ hd (hown.trans ho')⟩
  · have hx := aux x e1 hu he
    subst hx
    simp only [upd_eq, Option.some.injEq] at he
    subst he
    exact ⟨_, by simp [Gh.withV, upd_eq], by simp [Gh.withV, upd_eq], hr.mono (fun k hk => ⟨(ha.ok k hk).1, rfl⟩) (fun _ _ => rfl)⟩
/-- A row that is nil goes on so. -/
theorem RelW.nilMove {w0 bl D w m G d e sz} (h : RelW w0 bl D w m G) {fid : Nat} (hf : ¬ D fid) {D' : Nat → Prop} (hD : ∀ d, D d → D' d) (hD' : D' fid) (hd : ∀ x, m d = some x → ownB G d x = none) :
    RelW w0 bl D' w (upd (upd m d none) fid (some ⟨true, .row e sz []⟩)) (G.withV fid (.slice none 0 0) sz) ∧
    Adv w (okP w m G) G w (okP w (upd (upd m d none) fid (some ⟨true, .row e sz []⟩)) (G.withV fid (.slice none 0 0) sz)) (G.withV fid (.slice none 0 0) sz) := by
  have hne : ∀ d, D d → d ≠ fid := fun d hd he => hf (he ▸ hd)
  have aux : ∀ y ey, (y = d ∨ y = fid) → upd (upd m d none) fid (some ⟨true, .row e sz []⟩) y = some ey → y = fid ∧ ey = ⟨true, .row e sz []⟩ := fun y ey hy hey => by
    by_cases h1 : y = fid
    · subst h1; simp only [upd_eq, Option.some.injEq] at hey; exact ⟨rfl, hey.symm⟩
    · rcases hy with rfl | rfl
      · rw [upd_ne _ _ h1, upd_eq] at hey; cases hey
      · exact absurd rfl h1
  refine h.step (fun x => x = d ∨ x = fid) (fun x hx => ⟨by simp [Gh.withV, upd_ne _ _ (hne x hx)], rfl, by simp [Gh.withV, upd_ne _ _ (hne x hx)]⟩) hD (fun x hx hv' => ?_) rfl rfl rfl (Nat.le_refl _) rfl (fun _ _ => rfl)
    (fun x hx => by rw [upd_ne _ _ (fun h => hx (.inr h)), upd_ne _ _ (fun h => hx (.inl h))]) (fun _ _ _ _ _ _ => rfl)
    (fun x e1 k hu he ho => ?_) (fun x x' e1 e1' k hu hu' he he' _ _ => (aux x e1 hu he).1.trans (aux x' e1' hu' he').1.symm) (fun ha x e1 hu he => ?_)
  · by_cases hxf : x = fid
    · exact hxf ▸ hD'
    · have := h.free hx
      simp [Gh.withV, upd_ne _ _ hxf, this] at hv'
  · obtain ⟨rfl, rfl⟩ := aux x e1 hu he
    simp [ownB, Gh.withV, upd_eq, Value.ownBlock] at ho
  · obtain ⟨rfl, rfl⟩ := aux x e1 hu he
    exact ⟨_, by simp [Gh.withV, upd_eq], by simp [Gh.withV, upd_eq], .inl ⟨rfl, rfl⟩⟩
end Go.Den

/- Den, part E: the plain operations, each shown once: what the machine yields is what the evaluator says. -/
namespace Go.Den
variable {P : Program}

/-! ### types -/
theorem run_sizeOf' {t : TypeId} {n : Nat} (h : tSize P t = some n) (w : World) : (Go.sizeOf t).run P w = .ok n w := by
  unfold tSize at h
  cases hi : P.info? t with
  | none => simp [hi] at h
  | some i => simp [hi] at h; simp [Go.sizeOf, typeInfo, hi, h]
theorem run_isAgg {t : TypeId} {g : Bool} (h : tAgg P t = some g) (w : World) : (isAgg t).run P w = .ok g w := by
  unfold tAgg at h
  cases hu : P.underlying t with
  | none => simp [hu] at h
  | some d => cases d <;> simp [hu] at h <;> simp [isAgg, run_underlying hu, h]
theorem run_zero {t : TypeId} {cs : List PV} (h : tZero P t = some cs) : ∃ z, (∀ w, (zeroValue t).run P w = .ok z w) ∧ constsPV z.cells.toList = some cs := by
  unfold tZero at h
  cases hi : P.info? t with
  | none => simp [hi] at h
  | some i =>
    cases hz : i.zero with
    | none => simp [hi, hz] at h
    | some z => exact ⟨z, fun w => by simp [zeroValue, typeInfo, hi, hz], by simpa [hi, hz] using h⟩
theorem constPV_rep {v : Value} {p : PV} (h : constPV v = some p) (w : World) (ok : Nat → Prop) : Rep w ok v p ∧ plainLeaf p = true := by
  unfold constPV at h
  split at h <;> simp at h <;> subst h
  · exact ⟨.int .., rfl⟩
  · exact ⟨.bool .., rfl⟩
  · exact ⟨.str .., rfl⟩
  · exact ⟨.nils, rfl⟩
  · exact ⟨.nilp, rfl⟩
  · exact ⟨.nilf, rfl⟩
theorem constsPV_rep : ∀ {vs : List Value} {ps : List PV}, constsPV vs = some ps → ∀ (w : World) (ok : Nat → Prop), vs.length = ps.length ∧ (∀ p ∈ ps, plainLeaf p = true) ∧ ∀ (j : Nat) p, ps[j]? = some p → ∃ v, vs[j]? = some v ∧ Rep w ok v p
  | [], ps, h, w, ok => by simp [constsPV] at h; subst h; simp
  | v :: r, ps, h, w, ok => by
    simp only [constsPV] at h
    cases h1 : constPV v with
    | none => simp [h1] at h
    | some x =>
      cases h2 : constsPV r with
      | none => simp [h1, h2] at h
      | some xs =>
        simp [h1, h2] at h
        subst h
        obtain ⟨i1, i2, i3⟩ := constsPV_rep h2 w ok
        obtain ⟨c1, c2⟩ := constPV_rep h1 w ok
        refine ⟨by simp [i1], by simp; exact ⟨c2, i2⟩, fun j p hp => ?_⟩
        cases j with
        | zero => simp at hp; subst hp; exact ⟨v, by simp, c1⟩
        | succ j => simp at hp; simpa using i3 j p hp

/-! ### operands -/
def SlotsOk (a : Act) (w : World) (ok : Nat → Prop) (G : Gh) (g : Nat → Option PV) : Prop := ∀ t p, g t = some p → RepS w ok G (a.eval (.tmp t)) p
theorem evOp_rep {a w ok G g} (hs : SlotsOk a w ok G g) {x : Operand} {p : PV} (h : evOp g x = some p) : RepS w ok G (a.eval x) p := by
  cases x with
  | tmp t => exact hs t p h
  | const v => obtain ⟨h1, h2⟩ := constPV_rep h w ok; exact h1.S h2
  | global _ => simp [evOp] at h
  | func f => simp [evOp] at h; subst h; exact .fn f #[] [] rfl (by simp)
theorem evOps_rep {a w ok G g} (hs : SlotsOk a w ok G g) : ∀ {xs : List Operand} {ps : List PV}, evOps g xs = some ps → xs.length = ps.length ∧ ∀ (j : Nat) v p, (xs.map a.eval)[j]? = some v → ps[j]? = some p → RepS w ok G v p
  | [], ps, h => by simp [evOps] at h; subst h; simp
  | x :: r, ps, h => by
    simp only [evOps] at h
    cases h1 : evOp g x with
    | none => simp [h1] at h
    | some y =>
      cases h2 : evOps g r with
      | none => simp [h1, h2] at h
      | some ys =>
        simp [h1, h2] at h
        subst h
        obtain ⟨i1, i2⟩ := evOps_rep hs h2
        refine ⟨by simp [i1], fun j v p hv hp => ?_⟩
        cases j with
        | zero => simp at hv hp; subst hv; subst hp; exact evOp_rep hs h1
        | succ j => simp only [List.map_cons, List.getElem?_cons_succ] at hv hp; exact i2 j v p hv hp

/-- Out of a slot of a known form. -/
theorem RepS.int {w ok G v k n} (h : RepS w ok G v (.int k n)) : v = .int k n := by cases h with | leaf h => cases h with | pl h => cases h; rfl
theorem RepS.bool {w ok G v b} (h : RepS w ok G v (.bool b)) : v = .bool b := by cases h with | leaf h => cases h with | pl h => cases h; rfl
theorem RepS.str {w ok G v l} (h : RepS w ok G v (.str l)) : ∃ s, v = .string s ∧ s.data.toList = l := by cases h with | leaf h => cases h with | pl h => cases h; exact ⟨_, rfl, rfl⟩
theorem RepS.nils {w ok G v} (h : RepS w ok G v .nils) : v = .slice none 0 0 := by cases h with | leaf h => cases h with | pl h => cases h; rfl
theorem RepS.nilp {w ok G v} (h : RepS w ok G v .nilp) : v = .pointer none := by cases h with | leaf h => cases h with | pl h => cases h; rfl
theorem RepS.h {w ok G v d} (h : RepS w ok G v (.h d)) : G.V d = some v ∧ v.oneCell' = true := by cases h with | leaf h => cases h with | pl h => cases h | h h h1 => exact ⟨h, h1⟩
theorem RepS.pb {w ok G v d o} (h : RepS w ok G v (.pb d o)) : ∃ b, G.B d = some b ∧ v = .pointer (some ⟨b, o, none⟩) := by
  cases h with | leaf h => cases h with | pl h => cases h | pb _ h => exact ⟨_, h, rfl⟩
theorem RepS.pe {w ok G v d i o} (h : RepS w ok G v (.pe d i o)) : ∃ g n c, G.V d = some (.slice (some ⟨g, 0, none⟩) n c) ∧ v = .pointer (some ⟨g, i * G.Z d + o, none⟩) := by
  cases h with | leaf h => cases h with | pl h => cases h | pe _ _ h => exact ⟨_, _, _, h, rfl⟩
theorem RepS.vw {w ok G v d len} (h : RepS w ok G v (.vw d len)) : ∃ a n c c', G.V d = some (.slice a n c) ∧ len ≤ n ∧ len ≤ c' ∧ v = .slice a len c' := by
  cases h with | leaf h => cases h with | pl h => cases h | vw _ _ h hl hc => exact ⟨_, _, _, _, h, hl, hc, rfl⟩
theorem RepS.rep {w ok G v p} (h : RepS w ok G v p) (hp : plainLeaf p = true) : Rep w ok v p := by
  cases h with
  | undef => simp [plainLeaf] at hp
  | leaf h => cases h with
    | pl h => exact h
    | _ => simp [plainLeaf] at hp
  | _ => simp [plainLeaf] at hp

/-! ### footprints read -/
theorem run_ret {α : Type} {a b : α} {m l o} (h : (RM.ret a).run m = some (b, l, o)) : b = a ∧ l = [] ∧ o = [] := by
  simp [RM.run] at h; exact ⟨h.1.symm, h.2.1, h.2.2⟩
theorem run_fail {α : Type} {b : α} {m l o} (h : (RM.fail : RM α).run m = some (b, l, o)) : False := by simp [RM.run] at h
theorem run_rdc {α : Type} {d : Nat} {k : Cont → RM α} {b : α} {m l o} (h : (RM.rdc d k).run m = some (b, l, o)) : ∃ e l', m d = some e ∧ (k e.c).run m = some (b, l', o) := by
  simp only [RM.run] at h
  cases hm : m d with
  | none => simp [hm] at h
  | some e =>
    simp only [hm] at h
    cases hk : (k e.c).run m with
    | none => simp [hk] at h
    | some x => obtain ⟨b', l', o'⟩ := x; simp [hk] at h; obtain ⟨rfl, rfl, rfl⟩ := h; exact ⟨e, l', rfl, hk⟩
theorem run_own {α : Type} {d : Nat} {k : Cont → RM α} {b : α} {m l o} (h : (RM.own d k).run m = some (b, l, o)) : ∃ c o', m d = some ⟨true, c⟩ ∧ (k c).run m = some (b, l, o') := by
  simp only [RM.run] at h
  cases hm : m d with
  | none => simp [hm] at h
  | some e =>
    obtain ⟨ow, c⟩ := e
    cases ow with
    | false => simp [hm] at h
    | true =>
      simp only [hm] at h
      cases hk : (k c).run m with
      | none => simp [hk] at h
      | some x => obtain ⟨b', l', o'⟩ := x; simp [hk] at h; obtain ⟨rfl, rfl, rfl⟩ := h; exact ⟨c, o', rfl, hk⟩
theorem run_bind {α β : Type} {x : RM α} {f : α → RM β} {b : β} {m : Nat → Option Ent} {l o} (h : (x.bind f).run m = some (b, l, o)) : ∃ a l1 o1 l2 o2, x.run m = some (a, l1, o1) ∧ (f a).run m = some (b, l2, o2) ∧ l = l1 ++ l2 ∧ o = o1 ++ o2 := by
  induction x generalizing l o with
  | ret a => exact ⟨a, [], [], l, o, rfl, h, rfl, rfl⟩
  | fail => exact (run_fail h).elim
  | rdc d k ih =>
    simp only [RM.bind, RM.run] at h
    cases hm : m d with
    | none => simp [hm] at h
    | some e =>
      simp only [hm] at h
      cases hk : ((k e.c).bind f).run m with
      | none => simp [hk] at h
      | some x =>
        obtain ⟨b', l', o'⟩ := x
        simp [hk] at h
        obtain ⟨rfl, rfl, rfl⟩ := h
        obtain ⟨a, l1, o1, l2, o2, h1, h2, rfl, rfl⟩ := ih _ hk
        exact ⟨a, d :: l1, o1, l2, o2, by simp [RM.run, hm, h1], h2, rfl, rfl⟩
  | own d k ih =>
    simp only [RM.bind, RM.run] at h
    cases hm : m d with
    | none => simp [hm] at h
    | some e =>
      simp only [hm] at h
      obtain ⟨ow, c⟩ := e
      cases ow with
      | false => simp at h
      | true =>
        simp only at h
        cases hk : ((k c).bind f).run m with
        | none => simp [hk] at h
        | some x =>
          obtain ⟨b', l', o'⟩ := x
          simp [hk] at h
          obtain ⟨rfl, rfl, rfl⟩ := h
          obtain ⟨a, l1, o1, l2, o2, h1, h2, rfl, rfl⟩ := ih _ hk
          exact ⟨a, l1, d :: o1, l2, o2, by simp [RM.run, hm, h1], h2, rfl, rfl⟩
theorem run_of {α : Type} {x : Option α} {b : α} {m l o} (h : (RM.of x).run m = some (b, l, o)) : x = some b := by
  cases x with
  | none => exact (run_fail h).elim
  | some a => rw [(run_ret h).1]
theorem run_retO {x : Option PV} {v : PV} {wr : Wr} {m l o} (h : (retO x).run m = some ((v, wr), l, o)) : x = some v ∧ wr = [] := by
  cases x with
  | none => exact (run_fail h).elim
  | some a => have := (run_ret h).1; simp at this; exact ⟨by rw [this.1], this.2⟩

/-! ### what an operation is shown to do -/
def putF (m : Nat → Option Ent) : Wr → Nat → Option Ent
  | [] => m
  | (d, .set c) :: r => putF (upd m d (some ⟨true, c⟩)) r
  | (d, .del) :: r => putF (upd m d none) r
  | (d, .fz) :: r => putF (match m d with | some e => upd m d (some ⟨false, e.c⟩) | none => m) r
theorem putF_append (m : Nat → Option Ent) : ∀ (x y : Wr), putF m (x ++ y) = putF (putF m x) y
  | [], _ => rfl
  | (d, c) :: r, y => by cases c <;> simp [putF, putF_append]

/-- Behind it: a value, a world, and all is told on. -/
def After (w0 : World) (bl : List Nat) (D' : Nat → Prop) (w : World) (m : Nat → Option Ent) (G : Gh) (v : PV) (wr : Wr) (v' : Value) (w' : World) : Prop :=
  ∃ G', RelW w0 bl D' w' (putF m wr) G' ∧ Adv w (okP w m G) G w' (okP w' (putF m wr) G') G' ∧ RepS w' (okP w' (putF m wr) G') G' v' v

/-- Nothing is written. -/
theorem After.quiet {w0 bl D w m G v v'} (h : RelW w0 bl D w m G) {D' : Nat → Prop} (hD : ∀ d, D d → D' d) (hv : RepS w (okP w m G) G v' v) : After w0 bl D' w m G v [] v' w :=
  ⟨G, h.widen hD, Adv.refl _ _ _, hv⟩

/-! ### load -/
theorem mkv_rep {w ok G} {agg : Bool} {cs : List PV} {v : PV} (h : mkv agg cs = some v) {us : List Value} (hl : us.length = cs.length) (hr : ∀ (j : Nat) u p, us[j]? = some u → cs[j]? = some p → RepL w ok G u p) :
    (agg = true ∧ v = .agg cs ∧ RepS w ok G (.agg us.toArray) v) ∨ (agg = false ∧ ∃ u p, us = [u] ∧ cs = [p] ∧ v = p ∧ RepS w ok G u v) := by
  cases agg with
  | true => simp [mkv] at h; subst h; exact .inl ⟨rfl, rfl, .agg _ _ (by simpa using hl) (fun j v p h1 h2 => hr j v p (by simpa using h1) h2)⟩
  | false =>
    match cs, us, h, hl with
    | [p], [u], h, _ => simp [mkv] at h; subst h; exact .inr ⟨rfl, u, p, rfl, rfl, rfl, .leaf (hr 0 u p rfl rfl)⟩
theorem loadC_run {w ok G} {t : TypeId} {cs : List PV} {off : Nat} {v : PV} (h : loadC P t cs off = some v) (b o : Nat) (hr : ∀ (j : Nat) p, cs[j]? = some p → ∃ u, w.cell? ⟨b, o + j, none⟩ = some u ∧ RepL w ok G u p) :
    ∃ v', (loadVar t ⟨b, o + off, none⟩).run P w = .ok v' w ∧ RepS w ok G v' v := by
  unfold loadC at h
  cases hn : tSize P t with
  | none => simp [hn] at h
  | some n =>
    cases hg : tAgg P t with
    | none => simp [hn, hg] at h
    | some g =>
      simp only [hn, hg] at h
      split at h
      · rename_i hle
        have hex : ∃ us : List Value, us.length = ((cs.drop off).take n).length ∧ ∀ (j : Nat) u p, us[j]? = some u → ((cs.drop off).take n)[j]? = some p → w.cell? ⟨b, o + off + j, none⟩ = some u ∧ RepL w ok G u p := by
          refine ⟨(List.range n).map fun j => (w.cell? ⟨b, o + off + j, none⟩).getD Go.undef, by simp; omega, fun j u p hu hp => ?_⟩
          have hj : j < n := by have := (List.getElem?_eq_some_iff.1 hp).1; simp at this; omega
          rw [List.getElem?_take_of_lt hj, List.getElem?_drop] at hp
          obtain ⟨u', h1, h2⟩ := hr (off + j) p hp
          rw [← Nat.add_assoc] at h1
          simp [hj] at hu
          rw [h1] at hu
          simp at hu
          subst hu
          exact ⟨h1, h2⟩
        obtain ⟨us, hl, hus⟩ := hex
        have hlen : us.length = n := by rw [hl]; simp; omega
        rcases mkv_rep h hl (fun j u p h1 h2 => (hus j u p h1 h2).2) with ⟨rfl, rfl, hS⟩ | ⟨rfl, u, p, rfl, hcs, rfl, hS⟩
        · refine ⟨_, ?_, hS⟩
          have hld := run_loadCells_list (P := P) w ⟨b, o + off, none⟩ us (fun j u hu => by
            rw [add_off]
            obtain ⟨p, hp⟩ : ∃ p, ((cs.drop off).take n)[j]? = some p := by
              have := (List.getElem?_eq_some_iff.1 hu).1
              exact ⟨_, List.getElem?_eq_getElem (by omega)⟩
            exact (hus j u p hu hp).1)
          rw [hlen] at hld
          simp [loadVar, run_isAgg hg, run_sizeOf' hn, hld]
        · refine ⟨u, ?_, hS⟩
          have := (hus 0 u v rfl (by rw [hcs]; rfl)).1
          simp only [Nat.add_zero] at this
          simp [loadVar, run_isAgg hg, this]
      · cases h
end Go.Den

/- Den, part F: loads, stores, variables, fields, places. -/
namespace Go.Den
variable {P : Program} {w0 w : World} {bl : List Nat} {D D' : Nat → Prop} {m : Nat → Option Ent} {G : Gh}

/-- Ids that are new. -/
structure Fr (D D' : Nat → Prop) (fid : Nat) : Prop where
  sub : ∀ d, D d → D' d
  new : ∀ j, j < 64 → ¬ D (fid + j) ∧ D' (fid + j)
theorem Fr.zero {D D' fid} (h : Fr D D' fid) : ¬ D fid ∧ D' fid := by simpa using h.new 0 (by decide)

theorem EntOk.box {ok d own cs} (h : EntOk w ok G d ⟨own, .box cs⟩) : ∃ b, G.B d = some b ∧ ∀ (j : Nat) p, cs[j]? = some p → ∃ u, w.cell? ⟨b, j, none⟩ = some u ∧ RepL w ok G u p := by
  cases own with
  | true =>
    obtain ⟨b, hb, cur, t, fz, h1, h2, h3, h4⟩ := h
    exact ⟨b, hb, fun j p hp => let ⟨u, hu, hr⟩ := h4 j p hp; ⟨u, by rw [cell_of_heap h1, hu], hr⟩⟩
  | false =>
    obtain ⟨b, hb, h1⟩ := h
    exact ⟨b, hb, fun j p hp => (h1 j p hp).2⟩
theorem EntOk.row {ok d own e sz xs} (h : EntOk w ok G d ⟨own, .row e sz xs⟩) : ∃ v, G.V d = some v ∧ G.Z d = sz ∧ (∀ x ∈ xs, x.length = sz) ∧ (∀ x ∈ xs, ∀ p ∈ x, plainLeaf p = true) ∧ ∃ a c, v = .slice a xs.length c ∧ xs.length ≤ c ∧
    (xs ≠ [] → ∃ g, a = some ⟨g, 0, none⟩) ∧
    ∀ (i : Nat) x (j : Nat) p, xs[i]? = some x → x[j]? = some p → ∃ g, a = some ⟨g, 0, none⟩ ∧ ∃ u, w.cell? ⟨g, i * sz + j, none⟩ = some u ∧ Rep w ok u p := by
  cases own with
  | true =>
    obtain ⟨v, hv, hz, hr⟩ := h
    refine ⟨v, hv, hz, ?_⟩
    rcases hr with ⟨rfl, rfl⟩ | ⟨g, c, cur, fz, rfl, h1, h2, h3, h4, h5, h6, h7⟩
    · exact ⟨by simp, by simp, none, 0, rfl, Nat.le_refl _, by simp, by simp⟩
    · exact ⟨h5, h6, some ⟨g, 0, none⟩, c, rfl, h2, fun _ => ⟨g, rfl⟩, fun i x j p hx hp => ⟨g, rfl, let ⟨u, hu, hr⟩ := h7 i x j p hx hp; ⟨u, by rw [cell_of_heap h1, hu], hr⟩⟩⟩
  | false =>
    obtain ⟨v, hv, hz, hr, hf⟩ := h
    cases hr with
    | sl a c _ _ vs hc hz' hp' hr' hv' =>
      refine ⟨_, hv, hz, hz', hp', a, c, rfl, hc, fun hne => ?_, fun i x j p hx hp => ?_⟩
      · obtain ⟨g, c', hg⟩ := hf hne
        injection hg with hg
        exact ⟨g, hg⟩
      · obtain ⟨g, o, ha, _, hcell⟩ := hr' i x j p hx hp
        obtain ⟨g', c', hg⟩ := hf (by intro h0; simp [h0] at hx)
        injection hg with hg
        rw [ha] at hg
        injection hg with hg
        injection hg with hg1 hg2
        subst hg1; subst hg2
        exact ⟨g, ha, _, by simpa using hcell, hv' i x j p hx hp⟩

/-! ### load -/
theorem loadS_sim (h : RelW w0 bl D w m G) (hD : ∀ d, D d → D' d) {t : TypeId} {a v : PV} {wr : Wr} {l o a'} (hr : (loadS P t a).run m = some ((v, wr), l, o)) (ha : RepS w (okP w m G) G a' a) :
    ∃ v', (Instr.loadAt t a').run P w = .ok v' w ∧ After w0 bl D' w m G v wr v' w := by
  cases a with
  | pb d off =>
    obtain ⟨e, l', hm, hk⟩ := run_rdc hr
    obtain ⟨own, c⟩ := e
    cases c with
    | row => exact (run_fail hk).elim
    | box cs =>
      obtain ⟨hl, rfl⟩ := run_retO hk
      obtain ⟨b, hb, rfl⟩ := ha.pb
      obtain ⟨b', hb', hc⟩ := (h.ent d _ hm).box
      rw [hb] at hb'
      injection hb' with hb'
      subst hb'
      obtain ⟨v', hv', hS⟩ := loadC_run (P := P) (w := w) (ok := okP w m G) (G := G) hl b 0 (fun j p hp => by simpa using hc j p hp)
      rw [Nat.zero_add] at hv'
      exact ⟨v', by simpa [Instr.loadAt, Instr.sureAddr] using hv', After.quiet h hD hS⟩
  | pe d i off =>
    obtain ⟨e, l', hm, hk⟩ := run_rdc hr
    obtain ⟨own, c⟩ := e
    cases c with
    | box => exact (run_fail hk).elim
    | row e sz xs =>
      simp only at hk
      cases hx : xs[i]? with
      | none => simp only [hx] at hk; exact (run_fail hk).elim
      | some cs =>
        simp only [hx] at hk
        obtain ⟨hl, rfl⟩ := run_retO hk
        obtain ⟨g, n, c, hV, rfl⟩ := ha.pe
        obtain ⟨v1, hV1, hz, hlen, hpl, a1, c1, rfl, _, _, hcell⟩ := (h.ent d _ hm).row
        rw [hV] at hV1
        injection hV1 with hV1
        injection hV1 with ha1 hn1 hc1
        subst ha1
        obtain ⟨v', hv', hS⟩ := loadC_run (P := P) (w := w) (ok := okP w m G) (G := G) hl g (i * sz) (fun j p hp => by
          obtain ⟨g', hg', u, hu, hrep⟩ := hcell i cs j p hx hp
          injection hg' with hg'; injection hg' with hg'; subst hg'
          exact ⟨u, hu, .pl hrep (hpl cs (List.mem_of_getElem? hx) p (List.mem_of_getElem? hp))⟩)
        rw [hz]
        exact ⟨v', by simpa [Instr.loadAt, Instr.sureAddr] using hv', After.quiet h hD hS⟩
  | pc cs =>
    obtain ⟨hl, rfl⟩ := run_retO hr
    have := ha.rep rfl
    cases this with
    | pc ad _ vs hpl hcell hv =>
      by_cases hcs : cs = []
      · subst hcs
        simp only [loadC] at hl
        cases hn : tSize P t with
        | none => simp [hn] at hl
        | some n =>
          cases hg : tAgg P t with
          | none => simp [hn, hg] at hl
          | some g =>
            simp only [hn, hg, Nat.zero_add, List.length_nil, Nat.le_zero] at hl
            split at hl
            · rename_i h0
              subst h0
              cases g with
              | false => simp [mkv] at hl
              | true =>
                simp [mkv] at hl
                subst hl
                have hld := run_loadCells_list (P := P) w ad [] (by simp)
                simp only [List.length_nil] at hld
                exact ⟨.agg #[], by simp [Instr.loadAt, Instr.sureAddr, loadVar, run_isAgg hg, run_sizeOf' hn, hld], After.quiet h hD (.agg _ _ rfl (by simp))⟩
            · cases hl
      · obtain ⟨p0, hp0⟩ : ∃ p, cs[0]? = some p := by cases cs with | nil => exact absurd rfl hcs | cons x r => exact ⟨x, rfl⟩
        obtain ⟨g, o, rfl, _, _⟩ := hcell 0 p0 hp0
        obtain ⟨v', hv', hS⟩ := loadC_run (P := P) (w := w) (ok := okP w m G) (G := G) hl g o (fun j p hp => by
          obtain ⟨g', o', he, _, hc⟩ := hcell j p hp
          injection he with he1 he2; subst he1; subst he2
          exact ⟨_, hc, .pl (hv j p hp) (hpl p (List.mem_of_getElem? hp))⟩)
        exact ⟨v', by simpa [Instr.loadAt, Instr.sureAddr] using hv', After.quiet h hD hS⟩
  | _ => exact (run_fail hr).elim

/-! ### variables -/
theorem alloc_sim (h : RelW w0 bl D w m G) {fid : Nat} (hf : Fr D D' fid) {t : TypeId} {cs : List PV} (hz : tZero P t = some cs) :
    ∃ v' w', (Instr.alloc t true (.tuple #[])).run P w = .ok v' w' ∧ After w0 bl D' w m G (.pb fid 0) [(fid, .set (.box cs))] v' w' := by
  obtain ⟨z, hzr, hzc⟩ := run_zero hz
  obtain ⟨h1, h2, h3⟩ := constsPV_rep hzc w (okP w m G)
  obtain ⟨hR, hA⟩ := h.newBox hf.zero.1 hf.sub hf.zero.2 z.cells t cs (by simpa using h1) (fun j p hp => by
    obtain ⟨u, hu, hr⟩ := h3 j p hp
    exact ⟨u, by simpa using hu, .pl hr (h2 p (List.mem_of_getElem? hp))⟩)
  exact ⟨.pointer (some ⟨w.heap.size, 0, none⟩), _, by simp [Instr.alloc, hzr, newVar, newRow, newObj, Sem.run], _, hR, hA, .leaf (.pb 0 (by simp [Gh.withB, upd_eq]))⟩
theorem box_sim (h : RelW w0 bl D w m G) {fid : Nat} (hf : Fr D D' fid) {t : TypeId} {x : Value} {p : PV} {cs : List PV} (hx : RepS w (okP w m G) G x p) (hl : leavesO p = some cs) :
    ∃ v' w', (Instr.box t x).run P w = .ok v' w' ∧ After w0 bl D' w m G (.pb fid 0) [(fid, .set (.box cs))] v' w' := by
  obtain ⟨h1, h2⟩ := hx.leaves hl
  obtain ⟨hR, hA⟩ := h.newBox hf.zero.1 hf.sub hf.zero.2 x.cells t cs h1 (fun j p hp => by
    have hj : j < x.cells.size := by rw [h1]; exact (List.getElem?_eq_some_iff.1 hp).1
    exact ⟨x.cells[j], by simp [hj], h2 j _ p (by simp [hj]) hp⟩)
  exact ⟨.pointer (some ⟨w.heap.size, 0, none⟩), _, by simp [Instr.box, newVar, newRow, newObj, Sem.run], _, hR, hA, .leaf (.pb 0 (by simp [Gh.withB, upd_eq]))⟩

/-! ### fields, places -/
theorem tField_run {t : TypeId} {j off : Nat} {ft : TypeId} (h : tField P t j = some (off, ft)) : ∃ fs f, P.underlying t = some (.struct fs) ∧ fs[j]? = some f ∧ f.offset = off ∧ f.type = ft := by
  unfold tField at h
  cases hu : P.underlying t with
  | none => simp [hu] at h
  | some d =>
    cases d with
    | struct fs =>
      cases hf : fs[j]? with
      | none => simp [hu, hf] at h
      | some f => simp [hu, hf] at h; exact ⟨fs, f, rfl, hf, h.1, h.2⟩
    | _ => simp [hu] at h
theorem fieldAddrS_sim (h : RelW w0 bl D w m G) (hD : ∀ d, D d → D' d) {t : TypeId} {j : Nat} {a v : PV} {wr : Wr} {l o a'} (hr : (fieldAddrS P t j a).run m = some ((v, wr), l, o)) (ha : RepS w (okP w m G) G a' a) :
    ∃ v', (Instr.fieldAt t a' j).run P w = .ok v' w ∧ After w0 bl D' w m G v wr v' w := by
  unfold fieldAddrS at hr
  cases hfd : tField P t j with
  | none => simp only [hfd] at hr; exact (run_fail hr).elim
  | some x =>
    obtain ⟨off, ft⟩ := x
    simp only [hfd] at hr
    cases hs : tSize P ft with
    | none => simp only [hs] at hr; exact (run_fail hr).elim
    | some n =>
      cases n with
      | zero => simp only [hs] at hr; exact (run_fail hr).elim
      | succ n =>
        simp only [hs] at hr
        obtain ⟨fs, f, hu, hf, rfl, rfl⟩ := tField_run hfd
        have key : ∀ ad : Addr, (Instr.fieldAt t (.pointer (some ad)) j).run P w = .ok (.pointer (some (ad.add f.offset))) w := fun ad => by
          simp [Instr.fieldAt, run_underlying hu, hf, Instr.sureAddr, fieldPlace, run_sizeOf' hs]
        cases a with
        | pb d o =>
          obtain ⟨h1, -⟩ := run_ret hr
          injection h1 with h1 h2
          subst h1; subst h2
          obtain ⟨b, hb, rfl⟩ := ha.pb
          refine ⟨_, key _, After.quiet h hD ?_⟩
          rw [add_off]
          exact .leaf (.pb _ hb)
        | pe d i o =>
          obtain ⟨h1, -⟩ := run_ret hr
          injection h1 with h1 h2
          subst h1; subst h2
          obtain ⟨g, n, c, hV, rfl⟩ := ha.pe
          refine ⟨_, key _, After.quiet h hD ?_⟩
          rw [add_off, Nat.add_assoc]
          exact .leaf (.pe _ _ hV)
        | pc cs =>
          obtain ⟨h1, -⟩ := run_ret hr
          injection h1 with h1 h2
          subst h1; subst h2
          have := ha.rep rfl
          cases this with
          | pc ad _ vs hpl hcell hv =>
            refine ⟨_, key _, After.quiet h hD (.leaf (.pl (.pc _ _ (fun j => vs (f.offset + j)) (fun p hp => hpl p (List.mem_of_mem_drop hp)) (fun j p hp => ?_) (fun j p hp => ?_)) rfl))⟩
            · rw [List.getElem?_drop] at hp
              obtain ⟨g, o, rfl, hok, hc⟩ := hcell _ p hp
              exact ⟨g, o + f.offset, add_off .., hok, by rw [Nat.add_assoc]; exact hc⟩
            · rw [List.getElem?_drop] at hp
              exact hv _ p hp
        | _ => exact (run_fail hr).elim
theorem fieldS_sim (h : RelW w0 bl D w m G) (hD : ∀ d, D d → D' d) {t : TypeId} {j off : Nat} {ft : TypeId} {cs : List PV} {v : PV} (hf : tField P t j = some (off, ft)) (hl : loadC P ft cs off = some v) {a'} (ha : RepS w (okP w m G) G a' (.agg cs)) :
    ∃ v', (Instr.field t a' j).run P w = .ok v' w ∧ After w0 bl D' w m G v [] v' w := by
  obtain ⟨fs, f, hu, hfj, rfl, rfl⟩ := tField_run hf
  cases ha with
  | leaf ha => cases ha with | pl _ hp => simp [plainLeaf] at hp
  | agg cells _ hsz hv =>
    unfold loadC at hl
    cases hn : tSize P f.type with
    | none => simp [hn] at hl
    | some n =>
      cases hg : tAgg P f.type with
      | none => simp [hn, hg] at hl
      | some g =>
        simp only [hn, hg] at hl
        split at hl
        · rename_i hle
          rcases mkv_rep (w := w) (ok := okP w m G) (G := G) hl (us := (cells.toList.drop f.offset).take n) (by simp; omega) (fun j u p hu hp => by
            rw [List.getElem?_take] at hu hp
            split at hu
            · rename_i hj
              rw [if_pos hj, List.getElem?_drop] at hp
              rw [List.getElem?_drop] at hu
              exact hv _ u p (by simpa using hu) hp
            · cases hu) with ⟨rfl, rfl, hS⟩ | ⟨rfl, u, p, hus, hcs, rfl, hS⟩
          · refine ⟨_, ?_, After.quiet h hD hS⟩
            simp [Instr.field, run_underlying hu, hfj, asAgg, part, run_isAgg hg, run_sizeOf' hn]
            apply Array.ext'
            simp
          · refine ⟨u, ?_, After.quiet h hD hS⟩
            have : cells[f.offset]? = some u := by
              have h0 : ((cells.toList.drop f.offset).take n)[0]? = some u := by rw [hus]; rfl
              rw [List.getElem?_take] at h0
              split at h0
              · simpa using h0
              · cases h0
            simp [Instr.field, run_underlying hu, hfj, asAgg, part, run_isAgg hg, this]
        · cases hl
  
theorem nilCheck_sim {a' : Value} {ok a} (ha : RepS w ok G a' a) (hp : isPtr a = true) : ∃ x, a' = .pointer (some x) := by
  cases a <;> simp [isPtr] at hp
  · obtain ⟨b, _, rfl⟩ := ha.pb; exact ⟨_, rfl⟩
  · obtain ⟨g, _, _, _, rfl⟩ := ha.pe; exact ⟨_, rfl⟩
  · have := ha.rep rfl; cases this; exact ⟨_, rfl⟩

theorem indexAddrS_sim (h : RelW w0 bl D w m G) (hD : ∀ d, D d → D' d) {t : TypeId} {a i v : PV} {wr : Wr} {l o a' i'} (hr : (indexAddrS P t a i).run m = some ((v, wr), l, o)) (ha : RepS w (okP w m G) G a' a) (hi : RepS w (okP w m G) G i' i) :
    ∃ v', (Instr.indexAt t a' i').run P w = .ok v' w ∧ After w0 bl D' w m G v wr v' w := by
  unfold indexAddrS at hr
  cases hu : P.underlying t with
  | none => simp only [hu] at hr; exact (run_fail hr).elim
  | some d =>
    cases d with
    | slice e =>
      simp only [hu] at hr
      cases hn : tSize P e with
      | none => simp only [hn] at hr; exact (run_fail hr).elim
      | some n =>
        cases n with
        | zero => simp only [hn] at hr; exact (run_fail hr).elim
        | succ n =>
          simp only [hn] at hr
          cases i with
          | int k x =>
            simp only at hr
            have := hi.int
            subst this
            split at hr
            · rename_i h0
              cases a with
              | sl sz xs =>
                simp only at hr
                split at hr
                · rename_i hsz
                  have hsz : sz = n + 1 := by simpa using hsz
                  subst hsz
                  cases hx : xs[x.toNat]? with
                  | none => simp only [hx] at hr; exact (run_fail hr).elim
                  | some cs =>
                    simp only [hx] at hr
                    obtain ⟨h1, -⟩ := run_ret hr
                    injection h1 with h1 h2
                    subst h1; subst h2
                    have := ha.rep rfl
                    cases this with
                    | sl ad c _ _ vs hc hz hpl hcell hv =>
                      have hmem := List.mem_of_getElem? hx
                      have hlen := hz cs hmem
                      obtain ⟨p0, hp0⟩ : ∃ p, cs[0]? = some p := ⟨_, List.getElem?_eq_getElem (by omega)⟩
                      obtain ⟨g, o, rfl, _, _⟩ := hcell _ cs 0 p0 hx hp0
                      have hlt : x.toNat < xs.length := (List.getElem?_eq_some_iff.1 hx).1
                      have hlt' : x < (xs.length : Int) := by omega
                      refine ⟨.pointer (some ⟨g, o + x.toNat * (n + 1), none⟩), by simp [Instr.indexAt, asIntOf, run_underlying hu, h0, hlt', run_sizeOf' hn, add_off], After.quiet h hD (.leaf (.pl (.pc _ _ (vs x.toNat) (fun p hp => hpl cs hmem p hp) (fun j p hp => ?_) (fun j p hp => hv _ cs j p hx hp)) rfl))⟩
                      obtain ⟨g', o', he, hok, hcc⟩ := hcell _ cs j p hx hp
                      injection he with he; injection he with he1 he2; subst he1; subst he2
                      exact ⟨g, _, rfl, hok, by rw [Nat.add_assoc]; exact hcc⟩
                · exact (run_fail hr).elim
              | h d =>
                obtain ⟨e1, l', hm, hk⟩ := run_rdc hr
                obtain ⟨own, c⟩ := e1
                cases c with
                | box => exact (run_fail hk).elim
                | row e' sz xs =>
                  simp only at hk
                  split at hk
                  · rename_i hsz
                    simp only [Bool.and_eq_true, beq_iff_eq, decide_eq_true_eq] at hsz
                    obtain ⟨rfl, hlt⟩ := hsz
                    obtain ⟨h1, -⟩ := run_ret hk
                    injection h1 with h1 h2
                    subst h1; subst h2
                    obtain ⟨hV, -⟩ := ha.h
                    obtain ⟨v1, hV1, hz, hlen, hpl, a1, c1, rfl, _, hne, hcell⟩ := (h.ent d _ hm).row
                    rw [hV] at hV1
                    injection hV1 with hV1
                    subst hV1
                    obtain ⟨g, rfl⟩ := hne (by intro h0; simp [h0] at hlt)
                    have hlt' : x < (xs.length : Int) := by omega
                    refine ⟨.pointer (some ⟨g, x.toNat * (n + 1), none⟩), by simp [Instr.indexAt, asIntOf, run_underlying hu, h0, hlt', run_sizeOf' hn, add_off], After.quiet h hD ?_⟩
                    have := RepL.pe (w := w) (ok := okP w m G) x.toNat 0 hV
                    rw [hz, Nat.add_zero] at this
                    exact .leaf this
                  · exact (run_fail hk).elim
              | _ => exact (run_fail hr).elim
            · exact (run_fail hr).elim
          | _ => exact (run_fail hr).elim
    | _ => simp only [hu] at hr; exact (run_fail hr).elim

theorem indexS_sim (h : RelW w0 bl D w m G) (hD : ∀ d, D d → D' d) {t : TypeId} {a i v : PV} {wr : Wr} {l o a' i'} (hr : (indexS P t a i).run m = some ((v, wr), l, o)) (ha : RepS w (okP w m G) G a' a) (hi : RepS w (okP w m G) G i' i) :
    ∃ v', (Instr.index t a' i').run P w = .ok v' w ∧ After w0 bl D' w m G v wr v' w := by
  unfold indexS at hr
  split at hr
  · rename_i hu
    split at hr
    · rename_i h0
      split at hr
      · rename_i c hc
        obtain ⟨h1, -⟩ := run_ret hr
        injection h1 with h1 h2
        subst h1; subst h2
        obtain ⟨s, rfl, rfl⟩ := ha.str
        have := hi.int
        subst this
        refine ⟨.int .u8 c.toNat, ?_, After.quiet h hD (.leaf (.pl (.int ..) rfl))⟩
        rename_i n _
        have hs : s[n.toNat]? = some c := by
          have h2 := (List.getElem?_eq_some_iff.1 hc)
          obtain ⟨hlt, he⟩ := h2
          have hlt' : n.toNat < s.size := by simpa using hlt
          rw [getElem?_pos s n.toNat hlt']
          congr 1
        simp [Instr.index, asIntOf, run_underlying hu, h0, hs]
      · exact (run_fail hr).elim
    · exact (run_fail hr).elim
  · exact (run_fail hr).elim
end Go.Den

/- Den, part G: arithmetic and comparison; sealing; lengths; cuts. -/
namespace Go.Den
variable {P : Program} {w0 w : World} {bl : List Nat} {D D' : Nat → Prop} {m : Nat → Option Ent} {G : Gh}

theorem run_part_int {t : TypeId} {k : IntKind} (hu : P.underlying t = some (.int k)) {xs : Array Value} {off : Nat} {v : Value} (hx : xs[off]? = some v) : (part t xs off).run P w = .ok v w := by
  simp [part, isAgg, run_underlying hu, hx]
theorem eqFields_ints {xs ys : Array Value} {d : Nat} : ∀ (fs : List Field) (i : Nat) (cs ds : List PV) (e : Bool), intFs P fs i = true → eqInts fs.length cs ds = some e →
    (∀ (j : Nat) k a, cs[j]? = some (.int k a) → xs[i + j]? = some (.int k a)) → (∀ (j : Nat) k a, ds[j]? = some (.int k a) → ys[i + j]? = some (.int k a)) →
    (Op.eqFields (d + 1) xs ys fs).run P w = .ok e w := by
  intro fs
  induction fs with
  | nil =>
    intro i cs ds e _ h _ _
    cases cs <;> cases ds <;> simp [eqInts] at h
    subst h
    simp [Op.eqFields]
  | cons f r ih =>
    intro i cs ds e hf h hx hy
    rw [List.length_cons] at h
    unfold eqInts at h
    split at h
    · rename_i hh; cases hh
    · rename_i n k a r' k' b s' hn
      cases hn
      split at h
      · rename_i hk
        subst hk
        split at h
        · rename_i e' he
          injection h with h
          simp only [intFs, Bool.and_eq_true, decide_eq_true_eq, beq_iff_eq] at hf
          obtain ⟨h1, h2, h3, h4⟩ := hf
          split at h3
          · rename_i ku hu
            have hxa := hx 0 k a rfl
            have hyb := hy 0 k b rfl
            rw [Nat.add_zero, ← h2] at hxa hyb
            have hrest := ih (i + 1) r' s' e' h4 he (fun j k a hj => by have := hx (j + 1) k a (by simpa using hj); rw [show i + 1 + j = i + (j + 1) by omega]; exact this)
              (fun j k a hj => by have := hy (j + 1) k a (by simpa using hj); rw [show i + 1 + j = i + (j + 1) by omega]; exact this)
            rw [Op.eqFields, if_pos h1]
            simp only [Sem.run_bind, run_part_int hu hxa, run_part_int hu hyb, Result.andThen_ok, run_equalIn_int w d f.type k ku a b hu]
            by_cases hab : a = b
            · subst hab
              simp only [beq_self_eq_true, Bool.not_true, Bool.false_eq_true, if_false]
              rw [hrest, ← h]
              simp
            · have : (a == b) = false := by simpa using hab
              simp only [this, Bool.not_false, if_true, Sem.run_pure]
              rw [← h]
              simp [hab]
          · cases h3
        · cases h
      · cases h
    · cases h
theorem evBin_agg {ok} {op : BinOp} {t : TypeId} {cs ds : List PV} {v : PV} {a b : Value} (h : evBin P op t (.agg cs) (.agg ds) = some v) (ha : RepS w ok G a (.agg cs)) (hb : RepS w ok G b (.agg ds)) (ox oy : Operand) :
    ∃ v', (do eqGuard op t ox oy a b; binOp op t a b : Sem Value).run P w = .ok v' w ∧ RepS w ok G v' v := by
  obtain ⟨xs, rfl, hxl, hxv⟩ : ∃ xs : Array Value, a = .agg xs ∧ xs.size = cs.length ∧ ∀ (j : Nat) k n, cs[j]? = some (.int k n) → xs[j]? = some (.int k n) := by
    cases ha with
    | leaf hl => cases hl with | pl _ hpl => simp [plainLeaf] at hpl
    | agg cells _ hl hv =>
      refine ⟨cells, rfl, hl, fun j k n hj => ?_⟩
      have hlt : j < cells.size := by rw [hl]; exact (List.getElem?_eq_some_iff.1 hj).1
      have := hv j cells[j] _ (Array.getElem?_eq_getElem hlt) hj
      rw [Array.getElem?_eq_getElem hlt]
      have h2 := (RepS.leaf this : RepS w ok G cells[j] (.int k n)).int
      rw [h2]
  obtain ⟨ys, rfl, hyl, hyv⟩ : ∃ ys : Array Value, b = .agg ys ∧ ys.size = ds.length ∧ ∀ (j : Nat) k n, ds[j]? = some (.int k n) → ys[j]? = some (.int k n) := by
    cases hb with
    | leaf hl => cases hl with | pl _ hpl => simp [plainLeaf] at hpl
    | agg cells _ hl hv =>
      refine ⟨cells, rfl, hl, fun j k n hj => ?_⟩
      have hlt : j < cells.size := by rw [hl]; exact (List.getElem?_eq_some_iff.1 hj).1
      have := hv j cells[j] _ (Array.getElem?_eq_getElem hlt) hj
      rw [Array.getElem?_eq_getElem hlt]
      have h2 := (RepS.leaf this : RepS w ok G cells[j] (.int k n)).int
      rw [h2]
  simp only [evBin] at h
  split at h
  · rename_i n hn
    split at h
    · rename_i e he
      unfold intStruct at hn
      split at hn
      · rename_i fs hu
        split at hn
        · cases hn
        · rename_i hg
          simp only [Bool.or_eq_true, not_or, Bool.not_eq_true] at hg
          split at hn
          · rename_i hi
            injection hn with hn
            subst hn
            have hff : P.fieldsOf t = fs := by simp [Program.fieldsOf, hu]
            have hrun : (Op.equalIn 10000 t (.agg xs) (.agg ys)).run P w = .ok e w := by
              rw [show (10000 : Nat) = 9999 + 1 from rfl, run_equalIn_agg w 9999 t xs ys (by rw [hff]; exact hu) hg.1, hff]
              exact eqFields_ints (d := 9998) fs.toList 0 cs ds e hi he (fun j k a hj => by rw [Nat.zero_add]; exact hxv j k a hj) (fun j k a hj => by rw [Nat.zero_add]; exact hyv j k a hj)
            cases op <;> simp only at h <;> first
              | (injection h with h; subst h
                 refine ⟨_, ?_, .leaf (.pl (.bool _) rfl)⟩
                 simp only [Sem.run_bind, run_eqGuard_agg w _ t ox oy xs ys hg.2, Result.andThen_ok, run_eql_struct, run_neq_struct, hrun])
              | cases h
          · cases hn
      · cases hn
    · cases h
  · cases h
/-! ### arithmetic -/
theorem evBin_run {ok} {op : BinOp} {t : TypeId} {x y v : PV} {a b : Value} (h : evBin P op t x y = some v) (ha : RepS w ok G a x) (hb : RepS w ok G b y) (ox oy : Operand) :
    ∃ v', (do eqGuard op t ox oy a b; binOp op t a b : Sem Value).run P w = .ok v' w ∧ RepS w ok G v' v := by
  cases x with
  | int k n =>
    have := ha.int; subst this
    cases y with
    | int k' n' =>
      have := hb.int; subst this
      cases op with
      | shl =>
        simp only [evBin] at h
        split at h
        · cases h
        · rename_i hn
          injection h with h; subst h
          exact ⟨_, by simp [eqGuard, binOp, Op.shift, hn], .leaf (.pl (.int ..) rfl)⟩
      | shr =>
        simp only [evBin] at h
        split at h
        · cases h
        · rename_i hn
          injection h with h; subst h
          exact ⟨_, by simp [eqGuard, binOp, Op.shift, hn], .leaf (.pl (.int ..) rfl)⟩
      | quo =>
        simp only [evBin] at h
        split at h
        · rename_i hk; subst hk
          simp only [binInt] at h
          split at h
          · cases h
          · rename_i hz
            injection h with h; subst h
            exact ⟨_, by simp [eqGuard, binOp, Op.intDiv, hz], .leaf (.pl (.int ..) rfl)⟩
        · cases h
      | rem =>
        simp only [evBin] at h
        split at h
        · rename_i hk; subst hk
          simp only [binInt] at h
          split at h
          · cases h
          · rename_i hz
            injection h with h; subst h
            exact ⟨_, by simp [eqGuard, binOp, Op.intDiv, hz], .leaf (.pl (.int ..) rfl)⟩
        · cases h
      | _ =>
        simp only [evBin] at h
        split at h
        · rename_i hk; subst hk
          simp only [binInt, cmpInt] at h
          first
            | (injection h with h; subst h
               exact ⟨_, by simp [eqGuard, binOp, Op.intArith, Op.intBits, Op.intCmp]; rfl, .leaf (.pl (.int ..) rfl)⟩)
            | (injection h with h; subst h
               exact ⟨_, by simp [eqGuard, binOp, Op.intArith, Op.intBits, Op.intCmp], .leaf (.pl (.int ..) rfl)⟩)
            | (injection h with h; subst h
               exact ⟨_, by simp [eqGuard, binOp, Op.intCmp], .leaf (.pl (.bool ..) rfl)⟩)
            | cases h
        · cases h
    | _ => simp [evBin] at h
  | str l =>
    obtain ⟨s, rfl, rfl⟩ := ha.str
    cases y with
    | str l' =>
      obtain ⟨s', rfl, rfl⟩ := hb.str
      simp only [evBin] at h
      cases op with
      | add =>
        simp only [binStr] at h
        split at h
        · rename_i hle
          injection h with h; subst h
          have hle' : ¬ (((s.size + s'.size : Nat) : Int) > IntKind.i64.max) := by
            have e1 : s.data.toList.length = s.size := by rw [Array.length_toList]; rfl
            have e2 : s'.data.toList.length = s'.size := by rw [Array.length_toList]; rfl
            have e3 : IntKind.i64.max = 9223372036854775807 := by decide
            rw [e3]
            omega
          refine ⟨.string (s ++ s'), ?_, ?_⟩
          · show Sem.run P (do eqGuard .add t ox oy (.string s) (.string s'); Op.stringOp .add s s') w = _
            simp only [eqGuard, Op.stringOp, if_neg hle', Sem.run_bind]
            rfl
          · have := Rep.str (w := w) (ok := ok) (s ++ s')
            rw [Joins.data_append] at this
            exact .leaf (.pl this rfl)
        · cases h
      | _ =>
        simp only [binStr] at h
        first
          | (injection h with h; subst h
             exact ⟨_, by simp [eqGuard, binOp, Op.stringOp, ByteArray.toList_eq]; rfl, .leaf (.pl (.bool ..) rfl)⟩)
          | (injection h with h; subst h
             exact ⟨_, by simp [eqGuard, binOp, Op.stringOp, ByteArray.toList_eq], .leaf (.pl (.bool ..) rfl)⟩)
          | cases h
    | _ => simp [evBin] at h
  | bool c =>
    have := ha.bool; subst this
    cases y with
    | bool c' =>
      have := hb.bool; subst this
      simp only [evBin] at h
      split at h
      · rename_i hu
        cases op <;> simp only at h <;> first
          | (injection h with h; subst h
             exact ⟨_, by simp [eqGuard, binOp, run_equal_bool w t c c' hu], .leaf (.pl (.bool ..) rfl)⟩)
          | cases h
      · cases h
    | _ => simp [evBin] at h
  | agg cs =>
    cases y with
    | agg ds => exact evBin_agg h ha hb ox oy
    | _ => simp [evBin] at h
  | _ =>
    simp only [evBin] at h
    split at h
    · rename_i pt hu
      split at h
      · have := hb.nilp; subst this
        have hpt : P.underlying t = some (.pointer (P.pointee t)) := by simp [Program.pointee, hu]
        first
          | (have := ha.nilp; subst this
             cases op <;> simp only at h <;> first
               | (injection h with h; subst h
                  exact ⟨_, by simp [eqGuard, binOp, run_equal_pointer_nil w t _ hpt], .leaf (.pl (.bool ..) rfl)⟩)
               | cases h)
          | (cases op <;> simp only [isPtr, if_true, if_false, Bool.false_eq_true] at h <;> first
               | (obtain ⟨_, _, rfl⟩ := ha.pb
                  injection h with h; subst h
                  exact ⟨_, by simp [eqGuard, binOp, run_equal_pointer_nil w t _ hpt], .leaf (.pl (.bool ..) rfl)⟩)
               | (obtain ⟨_, _, _, _, rfl⟩ := ha.pe
                  injection h with h; subst h
                  exact ⟨_, by simp [eqGuard, binOp, run_equal_pointer_nil w t _ hpt], .leaf (.pl (.bool ..) rfl)⟩)
               | (obtain ⟨_, rfl⟩ := nilCheck_sim ha rfl
                  injection h with h; subst h
                  exact ⟨_, by simp [eqGuard, binOp, run_equal_pointer_nil w t _ hpt], .leaf (.pl (.bool ..) rfl)⟩)
               | cases h)
      · cases h
    · cases h

theorem evUn_run {ok} {op : UnOp} {x v : PV} {a : Value} (h : evUn op x = some v) (ha : RepS w ok G a x) : ∃ v', (Op.unary op a).run P w = .ok v' w ∧ RepS w ok G v' v := by
  cases op <;> simp only [evUn] at h
  case neg =>
    cases x <;> simp only at h <;> try cases h
    have := ha.int; subst this
    exact ⟨_, by simp [Op.unary, Op.intArith], .leaf (.pl (.int ..) rfl)⟩
  case not =>
    cases x <;> simp only at h <;> try cases h
    have := ha.bool; subst this
    exact ⟨_, by simp [Op.unary], .leaf (.pl (.bool ..) rfl)⟩
  case xor =>
    cases x <;> simp only at h <;> try cases h
    have := ha.int; subst this
    exact ⟨_, by simp only [Op.unary, Op.intBits]; rfl, .leaf (.pl (.int ..) rfl)⟩
  case plus => cases h
end Go.Den

/- Den, part H: sealing; stores; literals. -/
namespace Go.Den
variable {P : Program} {w0 w : World} {bl : List Nat} {D D' : Nat → Prop} {m m1 : Nat → Option Ent} {G : Gh}

/-- Some entries have been frozen since. -/
def Fro (m m1 : Nat → Option Ent) : Prop := ∀ d e, m d = some e → ∃ e1, m1 d = some e1 ∧ e1.c = e.c
theorem Fro.refl (m : Nat → Option Ent) : Fro m m := fun _ e h => ⟨e, h, rfl⟩
theorem Fro.fz {m m1 : Nat → Option Ent} (h : Fro m m1) (d : Nat) : Fro m (putF m1 [(d, .fz)]) := fun x e hx => by
  obtain ⟨e1, h1, h2⟩ := h x e hx
  simp only [putF]
  cases hd : m1 d with
  | none => exact ⟨e1, h1, h2⟩
  | some e2 =>
    by_cases hxd : x = d
    · subst hxd
      rw [hd] at h1; injection h1 with h1; subst h1
      exact ⟨⟨false, e2.c⟩, upd_eq _ _ _, h2⟩
    · exact ⟨e1, by simp only [upd_ne _ _ hxd]; exact h1, h2⟩

theorem RelW.fz (h : RelW w0 bl D w m G) (d : Nat) : RelW w0 bl D w (putF m [(d, .fz)]) G ∧ Adv w (okP w m G) G w (okP w (putF m [(d, .fz)]) G) G := by
  simp only [putF]
  cases hd : m d with
  | none => exact ⟨h, Adv.refl _ _ _⟩
  | some e => exact h.freeze hd

/-- A frozen row, read. -/
theorem EntOk.froRow {ok d e sz xs} (h : EntOk w ok G d ⟨false, .row e sz xs⟩) : ∃ v, G.V d = some v ∧ Rep w ok v (.sl sz xs) := by
  obtain ⟨v, hv, _, hr, _⟩ := h; exact ⟨v, hv, hr⟩

theorem seal0_sim (h : RelW w0 bl D w m1 G) (hf : Fro m m1) {p q : PV} {v : Value} {wr : Wr} {l o} (hr : (seal0 p).run m = some ((q, wr), l, o)) (hv : RepL w (okP w m1 G) G v p) :
    RelW w0 bl D w (putF m1 wr) G ∧ Fro m (putF m1 wr) ∧ Adv w (okP w m1 G) G w (okP w (putF m1 wr) G) G ∧ Rep w (okP w (putF m1 wr) G) v q ∧ plainLeaf q = true := by
  have hplain : ∀ {p}, plainLeaf p = true → RepL w (okP w m1 G) G v p → Rep w (okP w m1 G) v p := fun hp hv => (RepS.leaf hv).rep hp
  cases p with
  | h d =>
    obtain ⟨e, l', hm, hk⟩ := run_rdc hr
    obtain ⟨own, c⟩ := e
    cases c with
    | box => exact (run_fail hk).elim
    | row e sz xs =>
      have h1 := (run_ret hk).1
      injection h1 with h1 h2
      subst h1; subst h2
      obtain ⟨hR, hA⟩ := h.fz d
      refine ⟨hR, hf.fz d, hA, ?_, rfl⟩
      obtain ⟨e1, h1, h2⟩ := hf d _ hm
      have h3 : putF m1 [(d, .fz)] d = some ⟨false, .row e sz xs⟩ := by
        simp only [putF, h1, upd_eq]
        rw [h2]
      obtain ⟨v', hv', hrep⟩ := (hR.ent d _ h3).froRow
      have := (RepS.leaf hv).h.1
      rw [hv'] at this
      injection this with this
      subst this
      exact hrep
  | _ =>
    simp only [seal0] at hr
    split at hr
    · rename_i hp
      have h1 := (run_ret hr).1
      injection h1 with h1 h2
      subst h1; subst h2
      exact ⟨h, hf, Adv.refl _ _ _, hplain hp hv, hp⟩
    · exact (run_fail hr).elim
theorem seal0L_sim {ps : List PV} : ∀ {m1 : Nat → Option Ent} {qs : List PV} {vs : List Value} {wr : Wr} {l o}, RelW w0 bl D w m1 G → Fro m m1 → (seal0L ps).run m = some ((qs, wr), l, o) → vs.length = ps.length → (∀ (j : Nat) v p, vs[j]? = some v → ps[j]? = some p → RepL w (okP w m1 G) G v p) →
    RelW w0 bl D w (putF m1 wr) G ∧ Fro m (putF m1 wr) ∧ Adv w (okP w m1 G) G w (okP w (putF m1 wr) G) G ∧ qs.length = ps.length ∧ (∀ q ∈ qs, plainLeaf q = true) ∧ ∀ (j : Nat) v q, vs[j]? = some v → qs[j]? = some q → Rep w (okP w (putF m1 wr) G) v q := by
  induction ps with
  | nil =>
    intro m1 qs vs wr l o h hf hr hl hv
    have h1 := (run_ret hr).1
    injection h1 with h1 h2
    subst h1; subst h2
    exact ⟨h, hf, Adv.refl _ _ _, rfl, by simp, by simp⟩
  | cons p r ih =>
    intro m1 qs vs wr l o h hf hr hl hv
    obtain ⟨x, l1, o1, l2, o2, hx, hr, _, _⟩ := run_bind hr
    obtain ⟨y, l3, o3, l4, o4, hy, hr, _, _⟩ := run_bind hr
    obtain ⟨q, wq⟩ := x
    obtain ⟨qs', wq'⟩ := y
    have h1 := (run_ret hr).1
    injection h1 with h1 h2
    subst h1; subst h2
    cases vs with
    | nil => simp at hl
    | cons v vs =>
      obtain ⟨a1, a2, a3, a4, a5⟩ := seal0_sim h hf hx (hv 0 v p rfl rfl)
      obtain ⟨b1, b2, b3, b4, b5, b6⟩ := ih a1 a2 hy (by simpa using hl) (fun j v p h1 h2 => (hv (j + 1) v p (by simpa using h1) (by simpa using h2)).adv a3)
      rw [putF_append]
      refine ⟨b1, b2, a3.trans b3, by simp [b4], by simp; exact ⟨a5, b5⟩, fun j u q hu hq => ?_⟩
      cases j with
      | zero => simp at hu hq; subst hu; subst hq; exact a4.mono b3.ok
      | succ j => exact b6 j u q (by simpa using hu) (by simpa using hq)
theorem sealLeaf_sim (h : RelW w0 bl D w m1 G) (hf : Fro m m1) {p q : PV} {v : Value} {wr : Wr} {l o} (hr : (sealLeaf p).run m = some ((q, wr), l, o)) (hv : RepL w (okP w m1 G) G v p) :
    RelW w0 bl D w (putF m1 wr) G ∧ Fro m (putF m1 wr) ∧ Adv w (okP w m1 G) G w (okP w (putF m1 wr) G) G ∧ Rep w (okP w (putF m1 wr) G) v q ∧ plainLeaf q = true := by
  have hplain : ∀ {p}, plainLeaf p = true → RepL w (okP w m1 G) G v p → Rep w (okP w m1 G) v p := fun hp hv => (RepS.leaf hv).rep hp
  cases p with
  | h d =>
    obtain ⟨e, l', hm, hk⟩ := run_rdc hr
    obtain ⟨own, c⟩ := e
    cases c with
    | box => exact (run_fail hk).elim
    | row e sz xs =>
      have h1 := (run_ret hk).1
      injection h1 with h1 h2
      subst h1; subst h2
      obtain ⟨hR, hA⟩ := h.fz d
      refine ⟨hR, hf.fz d, hA, ?_, rfl⟩
      obtain ⟨e1, h1, h2⟩ := hf d _ hm
      have h3 : putF m1 [(d, .fz)] d = some ⟨false, .row e sz xs⟩ := by
        simp only [putF, h1, upd_eq]
        rw [h2]
      obtain ⟨v', hv', hrep⟩ := (hR.ent d _ h3).froRow
      have := (RepS.leaf hv).h.1
      rw [hv'] at this
      injection this with this
      subst this
      exact hrep
  | vw d len =>
    obtain ⟨e, l', hm, hk⟩ := run_rdc hr
    obtain ⟨own, c⟩ := e
    cases c with
    | box => exact (run_fail hk).elim
    | row e sz xs =>
      have h1 := (run_ret hk).1
      injection h1 with h1 h2
      subst h1; subst h2
      obtain ⟨hR, hA⟩ := h.fz d
      refine ⟨hR, hf.fz d, hA, ?_, rfl⟩
      obtain ⟨e1, h1, h2⟩ := hf d _ hm
      have h3 : putF m1 [(d, .fz)] d = some ⟨false, .row e sz xs⟩ := by
        simp only [putF, h1, upd_eq]
        rw [h2]
      obtain ⟨v', hv', hrep⟩ := (hR.ent d _ h3).froRow
      obtain ⟨a, n, c, c', hV, hl, hc', rfl⟩ := (RepS.leaf hv).vw
      rw [hV] at hv'
      injection hv' with hv'
      subst hv'
      cases hrep with
      | sl _ _ _ _ vs hc hz hp hcell hvv =>
        have hlen : (xs.take len).length = len := by rw [List.length_take]; omega
        have key : ∀ (i : Nat) x, (xs.take len)[i]? = some x → xs[i]? = some x := fun i x hx => by
          rw [List.getElem?_take] at hx
          split at hx
          · exact hx
          · cases hx
        have := Rep.sl (w := w) (ok := okP w (putF m1 [(d, .fz)]) G) a c' sz (xs.take len) vs (by rw [hlen]; exact hc') (fun x hx => hz x (List.mem_of_mem_take hx)) (fun x hx => hp x (List.mem_of_mem_take hx))
          (fun i x j p hx hpp => hcell i x j p (key i x hx) hpp) (fun i x j p hx hpp => hvv i x j p (key i x hx) hpp)
        rw [hlen] at this
        exact this
  | pb d off =>
    obtain ⟨e, l', hm, hk⟩ := run_rdc hr
    obtain ⟨own, c⟩ := e
    cases c with
    | row => exact (run_fail hk).elim
    | box cs =>
      simp only at hk
      split at hk
      · rename_i hall
        have h1 := (run_ret hk).1
        injection h1 with h1 h2
        subst h1; subst h2
        obtain ⟨hR, hA⟩ := h.fz d
        refine ⟨hR, hf.fz d, hA, ?_, rfl⟩
        obtain ⟨e1, h1, h2⟩ := hf d _ hm
        have h3 : putF m1 [(d, .fz)] d = some ⟨false, .box cs⟩ := by
          simp only [putF, h1, upd_eq]
          rw [h2]
        obtain ⟨b, hb, hcell⟩ := hR.ent d _ h3
        obtain ⟨b', hb', rfl⟩ := (RepS.leaf hv).pb
        rw [hb] at hb'
        injection hb' with hb'
        subst hb'
        have hpl : ∀ p ∈ cs, plainLeaf p = true := by simpa using hall
        refine .pc _ _ (fun j => (w.cell? ⟨b, off + j, none⟩).getD Go.undef) (fun p hp => hpl p (List.mem_of_mem_drop hp)) (fun j p hp => ?_) (fun j p hp => ?_)
        · rw [List.getElem?_drop] at hp
          obtain ⟨hok, u, hu, _⟩ := hcell _ p hp
          exact ⟨b, off, rfl, hok, by rw [hu]; rfl⟩
        · rw [List.getElem?_drop] at hp
          obtain ⟨hok, u, hu, hL⟩ := hcell _ p hp
          rw [hu]
          exact (RepS.leaf hL).rep (hpl p (List.mem_of_getElem? hp))
      · obtain ⟨⟨qs, wq⟩, l1, o1, l2, o2, hx, hk, _, _⟩ := run_bind hk
        have h1 := (run_ret hk).1
        injection h1 with h1 h2
        subst h1; subst h2
        obtain ⟨e1, he1, he2⟩ := hf d _ hm
        obtain ⟨b', hb', rfl⟩ := (RepS.leaf hv).pb
        have hcells : ∃ vs : List Value, vs.length = cs.length ∧ (∀ (j : Nat) u p, vs[j]? = some u → cs[j]? = some p → RepL w (okP w m1 G) G u p) ∧ ∀ (j : Nat) u, vs[j]? = some u → w.cell? ⟨b', j, none⟩ = some u := by
          have hent := h.ent d _ he1
          obtain ⟨own1, c1⟩ := e1
          simp only at he2
          subst he2
          cases own1 with
          | true =>
            obtain ⟨b, hb, cur, t1, fz, hh, hs, hz, hc⟩ := hent
            rw [hb'] at hb
            injection hb with hb
            subst hb
            refine ⟨cur.toList, by simpa using hs, fun j u p hu hp => ?_, fun j u hu => by rw [cell_of_heap hh]; simpa using hu⟩
            obtain ⟨u', hu', hL⟩ := hc j p hp
            rw [Array.getElem?_toList] at hu
            rw [hu] at hu'
            injection hu' with hu'
            subst hu'
            exact hL
          | false =>
            obtain ⟨b, hb, hcell⟩ := hent
            rw [hb'] at hb
            injection hb with hb
            subst hb
            refine ⟨(List.range cs.length).map fun j => (w.cell? ⟨b', j, none⟩).getD Go.undef, by simp, fun j u p hu hp => ?_, fun j u hu => ?_⟩
            · obtain ⟨_, u', hu', hL⟩ := hcell j p hp
              have hj : j < cs.length := (List.getElem?_eq_some_iff.1 hp).1
              rw [List.getElem?_map, List.getElem?_range hj, Option.map_some, hu'] at hu
              injection hu with hu
              subst hu
              exact hL
            · have hj : j < cs.length := by have := (List.getElem?_eq_some_iff.1 hu).1; simpa using this
              obtain ⟨_, u', hu', _⟩ := hcell j cs[j] (List.getElem?_eq_getElem hj)
              rw [List.getElem?_map, List.getElem?_range hj, Option.map_some, hu'] at hu
              injection hu with hu
              subst hu
              exact hu'
        obtain ⟨vs, hvl, hvr, hvc⟩ := hcells
        obtain ⟨a1, a2, a3, a4, a5, a6⟩ := seal0L_sim h hf hx hvl hvr
        obtain ⟨hR, hA⟩ := a1.fz d
        rw [putF_append]
        refine ⟨hR, a2.fz d, a3.trans hA, ?_, rfl⟩
        obtain ⟨e2, h1, h2⟩ := a2 d _ hm
        have h3 : putF (putF m1 wq) [(d, .fz)] d = some ⟨false, .box cs⟩ := by
          simp only [putF, h1, upd_eq]
          rw [h2]
        obtain ⟨b, hb, hcell⟩ := hR.ent d _ h3
        rw [hb'] at hb
        injection hb with hb
        subst hb
        refine .pc _ _ (fun j => (w.cell? ⟨b', off + j, none⟩).getD Go.undef) (fun p hp => a5 p (List.mem_of_mem_drop hp)) (fun j p hp => ?_) (fun j p hp => ?_)
        all_goals
          rw [List.getElem?_drop] at hp
          have hj : off + j < cs.length := by have := (List.getElem?_eq_some_iff.1 hp).1; rw [← a4]; exact this
          obtain ⟨hok, u, hu, _⟩ := hcell (off + j) cs[off + j] (List.getElem?_eq_getElem hj)
          have hvj : vs[off + j]? = some u := by
            have hlt : off + j < vs.length := by omega
            have := hvc (off + j) vs[off + j] (List.getElem?_eq_getElem hlt)
            rw [hu] at this
            injection this with this
            rw [List.getElem?_eq_getElem hlt, this]
        · exact ⟨b', off, rfl, hok, by rw [hu]; rfl⟩
        · rw [hu]
          exact (a6 (off + j) u p hvj hp).mono hA.ok
  | pe => simp only [sealLeaf, plainLeaf] at hr; exact (run_fail hr).elim
  | _ =>
    simp only [sealLeaf] at hr
    split at hr
    · rename_i hp
      have h1 := (run_ret hr).1
      injection h1 with h1 h2
      subst h1; subst h2
      exact ⟨h, hf, Adv.refl _ _ _, hplain hp hv, hp⟩
    · exact (run_fail hr).elim

theorem sealL_sim {ps : List PV} : ∀ {m1 : Nat → Option Ent} {qs : List PV} {vs : List Value} {wr : Wr} {l o}, RelW w0 bl D w m1 G → Fro m m1 → (sealL ps).run m = some ((qs, wr), l, o) → vs.length = ps.length → (∀ (j : Nat) v p, vs[j]? = some v → ps[j]? = some p → RepL w (okP w m1 G) G v p) →
    RelW w0 bl D w (putF m1 wr) G ∧ Fro m (putF m1 wr) ∧ Adv w (okP w m1 G) G w (okP w (putF m1 wr) G) G ∧ qs.length = ps.length ∧ (∀ q ∈ qs, plainLeaf q = true) ∧ ∀ (j : Nat) v q, vs[j]? = some v → qs[j]? = some q → Rep w (okP w (putF m1 wr) G) v q := by
  induction ps with
  | nil =>
    intro m1 qs vs wr l o h hf hr hl hv
    have h1 := (run_ret hr).1
    injection h1 with h1 h2
    subst h1; subst h2
    exact ⟨h, hf, Adv.refl _ _ _, rfl, by simp, by simp⟩
  | cons p r ih =>
    intro m1 qs vs wr l o h hf hr hl hv
    obtain ⟨x, l1, o1, l2, o2, hx, hr, _, _⟩ := run_bind hr
    obtain ⟨y, l3, o3, l4, o4, hy, hr, _, _⟩ := run_bind hr
    obtain ⟨q, wq⟩ := x
    obtain ⟨qs', wq'⟩ := y
    have h1 := (run_ret hr).1
    injection h1 with h1 h2
    subst h1; subst h2
    cases vs with
    | nil => simp at hl
    | cons v vs =>
      obtain ⟨a1, a2, a3, a4, a5⟩ := sealLeaf_sim h hf hx (hv 0 v p rfl rfl)
      obtain ⟨b1, b2, b3, b4, b5, b6⟩ := ih a1 a2 hy (by simpa using hl) (fun j v p h1 h2 => (hv (j + 1) v p (by simpa using h1) (by simpa using h2)).adv a3)
      rw [putF_append]
      refine ⟨b1, b2, a3.trans b3, by simp [b4], by simp; exact ⟨a5, b5⟩, fun j u q hu hq => ?_⟩
      cases j with
      | zero => simp at hu hq; subst hu; subst hq; exact a4.mono b3.ok
      | succ j => exact b6 j u q (by simpa using hu) (by simpa using hq)
theorem sealLL_sim {ps : List (List PV)} : ∀ {m1 : Nat → Option Ent} {qs : List (List PV)} {vs : List (List Value)} {wr : Wr} {l o}, RelW w0 bl D w m1 G → Fro m m1 → (sealLL ps).run m = some ((qs, wr), l, o) → vs.length = ps.length →
    (∀ (i : Nat) v p, vs[i]? = some v → ps[i]? = some p → v.length = p.length ∧ ∀ (j : Nat) u x, v[j]? = some u → p[j]? = some x → RepL w (okP w m1 G) G u x) →
    RelW w0 bl D w (putF m1 wr) G ∧ Fro m (putF m1 wr) ∧ Adv w (okP w m1 G) G w (okP w (putF m1 wr) G) G ∧ qs.length = ps.length ∧ (∀ q ∈ qs, ∀ x ∈ q, plainLeaf x = true) ∧
    (∀ (i : Nat) p q, ps[i]? = some p → qs[i]? = some q → q.length = p.length) ∧
    ∀ (i : Nat) v q, vs[i]? = some v → qs[i]? = some q → ∀ (j : Nat) u x, v[j]? = some u → q[j]? = some x → Rep w (okP w (putF m1 wr) G) u x := by
  induction ps with
  | nil =>
    intro m1 qs vs wr l o h hf hr hl hv
    have h1 := (run_ret hr).1
    injection h1 with h1 h2
    subst h1; subst h2
    exact ⟨h, hf, Adv.refl _ _ _, rfl, by simp, by simp, by simp⟩
  | cons p r ih =>
    intro m1 qs vs wr l o h hf hr hl hv
    obtain ⟨x, l1, o1, l2, o2, hx, hr, _, _⟩ := run_bind hr
    obtain ⟨y, l3, o3, l4, o4, hy, hr, _, _⟩ := run_bind hr
    obtain ⟨q, wq⟩ := x
    obtain ⟨qs', wq'⟩ := y
    have h1 := (run_ret hr).1
    injection h1 with h1 h2
    subst h1; subst h2
    cases vs with
    | nil => simp at hl
    | cons v vs =>
      obtain ⟨hl0, hv0⟩ := hv 0 v p rfl rfl
      obtain ⟨a1, a2, a3, a4, a5, a6⟩ := sealL_sim h hf hx hl0 hv0
      obtain ⟨b1, b2, b3, b4, b5, b6, b7⟩ := ih a1 a2 hy (by simpa using hl) (fun i v p h1 h2 => by
        obtain ⟨c1, c2⟩ := hv (i + 1) v p (by simpa using h1) (by simpa using h2)
        exact ⟨c1, fun j u x h3 h4 => (c2 j u x h3 h4).adv a3⟩)
      rw [putF_append]
      refine ⟨b1, b2, a3.trans b3, by simp [b4], fun q' hq' => ?_, fun i p' q' hp' hq' => ?_, fun i u q' hu hq' j z x hz hx => ?_⟩
      · simp at hq'
        rcases hq' with rfl | hq'
        · exact a5
        · exact b5 q' hq'
      · cases i with
        | zero => simp at hp' hq'; subst hp'; subst hq'; exact a4
        | succ i => exact b6 i p' q' (by simpa using hp') (by simpa using hq')
      · cases i with
        | zero => simp at hu hq'; subst hu; subst hq'; exact (a6 j z x hz hx).mono b3.ok
        | succ i => exact b7 i u q' (by simpa using hu) (by simpa using hq') j z x hz hx
end Go.Den

/- Den, part I: literals and stores. -/
namespace Go.Den
variable {P : Program} {w0 w : World} {bl : List Nat} {D D' : Nat → Prop} {m : Nat → Option Ent} {G : Gh}

/-! ### runs of cells -/
theorem zipIdx_foldl_set : ∀ (vs : List Value) (off k : Nat) (cur : Array Value), (vs.zipIdx k).foldl (fun cs x => cs.setIfInBounds (off + x.2) x.1) cur = arrSet cur (off + k) vs
  | [], _, _, _ => rfl
  | v :: r, off, k, cur => by
    rw [List.zipIdx_cons, List.foldl_cons, zipIdx_foldl_set r off (k + 1)]
    rfl
theorem fill_step (v : Array Value) (off : Nat) (cells : Array Value) : v.zipIdx.foldl (fun cs (c, j) => cs.setIfInBounds (off + j) c) cells = arrSet cells off v.toList := by
  rw [← Array.foldl_toList, Array.toList_zipIdx]
  exact zipIdx_foldl_set v.toList off 0 cells
theorem splice_length {cs vs : List PV} {off : Nat} (h : off + vs.length ≤ cs.length) : (splice cs off vs).length = cs.length := by
  simp [splice]; omega
theorem splice_get (cs vs : List PV) (off k : Nat) (h : off + vs.length ≤ cs.length) : (splice cs off vs)[k]? = if off ≤ k ∧ k < off + vs.length then vs[k - off]? else cs[k]? := by
  unfold splice
  by_cases h1 : k < off
  · rw [if_neg (by omega), List.append_assoc, List.getElem?_append_left (by simp; omega), List.getElem?_take_of_lt h1]
  · by_cases h2 : k < off + vs.length
    · rw [if_pos (by omega), List.append_assoc, List.getElem?_append_right (by simp; omega), List.getElem?_append_left (by simp; omega)]
      congr 1; simp; omega
    · rw [if_neg (by omega), List.getElem?_append_right (by simp; omega), List.getElem?_drop]
      congr 1; simp; omega
/-- Cells by cells. -/
def CellsOk (R : Value → PV → Prop) (cur : Array Value) (cs : List PV) : Prop := cur.size = cs.length ∧ ∀ (j : Nat) u p, cur[j]? = some u → cs[j]? = some p → R u p
theorem CellsOk.set {R : Value → PV → Prop} {cur : Array Value} {cs : List PV} (h : CellsOk R cur cs) {v : List Value} {ps : List PV} {off : Nat} (hl : v.length = ps.length) (hv : ∀ (j : Nat) u p, v[j]? = some u → ps[j]? = some p → R u p) (ho : off + ps.length ≤ cs.length) :
    CellsOk R (arrSet cur off v) (splice cs off ps) := by
  refine ⟨by rw [arrSet_size, splice_length ho, h.1], fun j u p hu hp => ?_⟩
  rw [splice_get _ _ _ _ ho] at hp
  split at hp
  · rename_i hj
    obtain ⟨k, rfl⟩ : ∃ k, j = off + k := ⟨j - off, by omega⟩
    obtain ⟨u', hu'⟩ : ∃ u', v[k]? = some u' := ⟨_, List.getElem?_eq_getElem (by omega)⟩
    rw [arrSet_in v off cur (by rw [h.1, hl]; exact ho) k u' hu'] at hu
    injection hu with hu
    subst hu
    rw [Nat.add_sub_cancel_left] at hp
    exact hv k u' p hu' hp
  · rename_i hj
    rw [arrSet_out _ _ _ _ (by omega)] at hu
    exact h.2 j u p hu hp

/-! ### a struct -/
/-- What is given for a literal's parts. -/
inductive PartsOk (R : Value → PV → Prop) : List (Nat × Value) → List (Nat × List PV) → Prop
  | nil : PartsOk R [] []
  | cons {v p vs ps} (h : v.1 = p.1 ∧ v.2.cells.size = p.2.length ∧ ∀ (j : Nat) u q, v.2.cells[j]? = some u → p.2[j]? = some q → R u q) (r : PartsOk R vs ps) : PartsOk R (v :: vs) (p :: ps)
theorem evParts_ok {a ok g} (hs : SlotsOk a w ok G g) : ∀ {xs : List (Nat × Operand)} {ps : List (Nat × List PV)}, evParts g xs = some ps → PartsOk (RepL w ok G) (xs.map fun x => (x.1, a.eval x.2)) ps
  | [], ps, h => by simp [evParts] at h; subst h; exact .nil
  | (i, x) :: r, ps, h => by
    simp only [evParts] at h
    cases h1 : (evOp g x).bind leavesO with
    | none => simp [h1] at h
    | some cs =>
      cases h2 : evParts g r with
      | none => simp [h1, h2] at h
      | some ys =>
        simp [h1, h2] at h
        subst h
        obtain ⟨p, hp, hl⟩ := Option.bind_eq_some_iff.1 h1
        obtain ⟨c1, c2⟩ := (evOp_rep hs hp).leaves hl
        exact .cons ⟨rfl, c1, c2⟩ (evParts_ok hs h2)
theorem fillF_sim {R : Value → PV → Prop} {place : Nat → Option (Nat × Nat)} : ∀ {vs : List (Nat × Value)} {ps : List (Nat × List PV)} {cur : Array Value} {cs cs' : List PV}, PartsOk R vs ps → CellsOk R cur cs → fillF place cs ps = some cs' →
    ∃ cur', Instr.fill place cur vs = some cur' ∧ CellsOk R cur' cs'
  | [], [], cur, cs, cs', _, hc, h => by simp [fillF] at h; subst h; exact ⟨cur, rfl, hc⟩
  | (i, v) :: vs, (i', p) :: ps, cur, cs, cs', hp, hc, h => by
    cases hp with
    | cons h1 h2 =>
      obtain ⟨rfl, e1, e2⟩ := h1
      simp only [fillF] at h
      cases hpl : place i with
      | none => simp [hpl] at h
      | some x =>
        obtain ⟨off, n⟩ := x
        simp only [hpl] at h
        split at h
        · rename_i hn
          obtain ⟨hn, hle⟩ := hn
          subst hn
          obtain ⟨cur', f1, f2⟩ := fillF_sim h2 (hc.set (v := v.cells.toList) (off := off) (by simpa using e1) (fun j u q hu hq => e2 j u q (by simpa using hu) hq) hle) h
          refine ⟨cur', ?_, f2⟩
          simp only [Instr.fill, hpl]
          rw [if_neg (by simp only [e1, hc.1]; simp; omega), fill_step]
          exact f1
        · cases h
theorem tPlaces_run {t : TypeId} {pl : List (Nat × Nat)} (h : tPlaces P t = some pl) : ∃ fs, P.underlying t = some (.struct fs) ∧ ∀ w, (fs.mapM fun f => do pure (f.offset, ← Go.sizeOf f.type) : Sem (Array (Nat × Nat))).run P w = .ok pl.toArray w := by
  unfold tPlaces at h
  split at h
  · rename_i fs hu
    exact ⟨fs, hu, fun w => by simp [Array.mapM_eq_mapM_toList, run_places w _ _ h]⟩
  · cases h
theorem buildS_sim (h : RelW w0 bl D w m G) (hD : ∀ d, D d → D' d) {t : TypeId} {l : List (Nat × List PV)} {v : PV} {wr : Wr} {l1 o} {vs : Array (Nat × Value)} (hr : (buildS P t l).run m = some ((v, wr), l1, o)) (hp : PartsOk (RepL w (okP w m G) G) vs.toList l) :
    ∃ v', (Instr.build t vs).run P w = .ok v' w ∧ After w0 bl D' w m G v wr v' w := by
  unfold buildS at hr
  split at hr
  · rename_i pl z hpl hz
    split at hr
    · rename_i cs hf
      have h1 := (run_ret hr).1
      injection h1 with h1 h2
      subst h1; subst h2
      obtain ⟨zv, hzr, hzc⟩ := run_zero hz
      obtain ⟨c1, c2, c3⟩ := constsPV_rep hzc w (okP w m G)
      obtain ⟨fs, hu, hrun⟩ := tPlaces_run hpl
      obtain ⟨cur', f1, f2⟩ := fillF_sim (cur := zv.cells) hp ⟨by simpa using c1, fun j u p hu hp => by
        obtain ⟨u', hu', hrep⟩ := c3 j p hp
        simp at hu'
        rw [hu] at hu'
        injection hu' with hu'
        subst hu'
        exact .pl hrep (c2 p (List.mem_of_getElem? hp))⟩ hf
      refine ⟨.agg cur', ?_, After.quiet h hD (.agg _ _ f2.1 f2.2)⟩
      have hrun' := hrun w
      simp only [Instr.build, Sem.run_bind, hzr, Result.andThen_ok, run_underlying hu]
      rw [hrun']
      have : (fun (x : Nat) => pl.toArray[x]?) = fun (j : Nat) => pl[j]? := by funext j; simp
      simp [f1]
    · exact (run_fail hr).elim
  · exact (run_fail hr).elim
end Go.Den

/- Den, part J: slice literals, stores. -/
namespace Go.Den
variable {P : Program} {w0 w : World} {bl : List Nat} {D D' : Nat → Prop} {m : Nat → Option Ent} {G : Gh}

/-- Cells, element by element. -/
def EltsOk (R : Value → PV → Prop) (cur : Array Value) (n sz : Nat) (f : Nat → List PV) : Prop :=
  cur.size = n * sz ∧ (∀ i, i < n → (f i).length = sz) ∧ ∀ (i j : Nat) u p, i < n → cur[i * sz + j]? = some u → (f i)[j]? = some p → R u p
theorem mul_lt {i n sz j : Nat} (hi : i < n) (hj : j < sz) : i * sz + j < n * sz := by
  have : (i + 1) * sz ≤ n * sz := Nat.mul_le_mul_right _ hi
  rw [Nat.add_mul] at this
  omega
theorem mul_apart {i k sz j j' : Nat} (h : i ≠ k) (hj : j < sz) (hj' : j' < sz) : i * sz + j ≠ k * sz + j' := by
  rcases Nat.lt_or_gt_of_ne h with h | h
  · have : (i + 1) * sz ≤ k * sz := Nat.mul_le_mul_right _ h
    rw [Nat.add_mul] at this
    omega
  · have : (k + 1) * sz ≤ i * sz := Nat.mul_le_mul_right _ h
    rw [Nat.add_mul] at this
    omega
theorem fillE_sim {R : Value → PV → Prop} {n sz : Nat} : ∀ {vs : List (Nat × Value)} {ps : List (Nat × List PV)} {cur : Array Value} {f : Nat → List PV}, PartsOk R vs ps → EltsOk R cur n sz f → (∀ x ∈ ps, x.2.length = sz ∧ x.1 < n) → nodupK ps = true →
    ∃ cur', Instr.fill (fun i => some (i * sz, sz)) cur vs = some cur' ∧ EltsOk R cur' n sz (fun i => (get ps i).getD (f i))
  | _, _, cur, f, .nil, hc, _, _ => ⟨cur, rfl, hc⟩
  | _, _, cur, f, .cons (v := v) (p := p) (vs := vs) (ps := ps) h1 h2, hc, hps, hnd => by
    obtain ⟨i, x⟩ := v
    obtain ⟨i', q⟩ := p
    obtain ⟨rfl, e1, e2⟩ := h1
    obtain ⟨hq, hi⟩ := hps (i, q) (by simp)
    simp only at hq hi e1 e2
    simp only [nodupK, Bool.and_eq_true, Bool.not_eq_true', List.any_eq_false, beq_iff_eq] at hnd
    have hle : i * sz + sz ≤ n * sz := by
      have : (i + 1) * sz ≤ n * sz := Nat.mul_le_mul_right _ hi
      rw [Nat.add_mul] at this
      omega
    have hxl : x.cells.toList.length = sz := by simp; omega
    have hc' : EltsOk R (arrSet cur (i * sz) x.cells.toList) n sz (upd f i q) := by
      refine ⟨by rw [arrSet_size]; exact hc.1, fun k hk => ?_, fun k j u p hk hu hp => ?_⟩
      · by_cases hki : k = i
        · subst hki; rw [upd_eq]; exact hq
        · rw [upd_ne _ _ hki]; exact hc.2.1 k hk
      · by_cases hki : k = i
        · subst hki
          rw [upd_eq] at hp
          have hj : j < sz := by have := (List.getElem?_eq_some_iff.1 hp).1; omega
          obtain ⟨u', hu'⟩ : ∃ u', x.cells.toList[j]? = some u' := ⟨_, List.getElem?_eq_getElem (by omega)⟩
          rw [arrSet_in _ _ _ (by rw [hc.1, hxl]; exact hle) j u' hu'] at hu
          injection hu with hu
          subst hu
          exact e2 j u' p (by simpa using hu') hp
        · rw [upd_ne _ _ hki] at hp
          have hj : j < sz := by have := (List.getElem?_eq_some_iff.1 hp).1; rw [hc.2.1 k hk] at this; exact this
          rw [arrSet_out _ _ _ _ (by
            rcases Nat.lt_or_gt_of_ne hki with h | h
            · have : (k + 1) * sz ≤ i * sz := Nat.mul_le_mul_right _ h
              rw [Nat.add_mul] at this
              omega
            · have : (i + 1) * sz ≤ k * sz := Nat.mul_le_mul_right _ h
              rw [Nat.add_mul] at this
              omega)] at hu
          exact hc.2.2 k j u p hk hu hp
    obtain ⟨cur', f1, f2⟩ := fillE_sim h2 hc' (fun y hy => hps y (by simp [hy])) hnd.2
    refine ⟨cur', ?_, f2.1, fun k hk => ?_, fun k j u p hk hu hp => ?_⟩
    · simp only [Instr.fill]
      rw [if_neg (by simp only [e1, hc.1, hq]; simp; omega), fill_step]
      exact f1
    · have := f2.2.1 k hk
      simp only [get]
      by_cases hik : i = k
      · subst hik; simp; exact hq
      · rw [if_neg (by simpa using hik)]
        have this : ((get ps k).getD (upd f i q k)).length = sz := this
        rw [upd_ne _ _ (fun h => hik h.symm)] at this
        exact this
    · refine f2.2.2 k j u p hk hu ?_
      simp only [get] at hp
      by_cases hik : i = k
      · subst hik
        have hnone : get ps i = none := by
          have : ∀ (l : List (Nat × List PV)), (∀ y ∈ l, y.1 ≠ i) → get l i = none := fun l hl => by
            induction l with
            | nil => rfl
            | cons y r ih =>
              simp only [get]
              rw [if_neg (by simpa using hl y (by simp))]
              exact ih fun z hz => hl z (by simp [hz])
          exact this ps fun y hy => hnd.1 y hy
        show ((get ps i).getD (upd f i q i))[j]? = some p
        rw [hnone]
        simp only [upd_eq]
        simpa using hp
      · rw [if_neg (by simpa using hik)] at hp
        show ((get ps k).getD (upd f i q k))[j]? = some p
        rw [upd_ne _ _ (fun h => hik h.symm)]
        exact hp

theorem buildSliceS_sim (h : RelW w0 bl D w m G) {fid : Nat} (hf : Fr D D' fid) {t : TypeId} {n : Nat} {l : List (Nat × List PV)} {v : PV} {wr : Wr} {l1 o} {vs : Array (Nat × Value)} (hr : (buildSliceS P fid t n l).run m = some ((v, wr), l1, o))
    (hp : PartsOk (RepL w (okP w m G) G) vs.toList l) :
    ∃ v' w', (Instr.buildSlice t n vs).run P w = .ok v' w' ∧ After w0 bl D' w m G v wr v' w' := by
  unfold buildSliceS at hr
  split at hr
  · rename_i e hu
    split at hr
    · rename_i s z hs hz
      split at hr
      · rename_i hc
        simp only [Bool.and_eq_true, decide_eq_true_eq, List.all_eq_true, beq_iff_eq, Nat.blt_eq] at hc
        obtain ⟨⟨⟨hle, hzl⟩, hall⟩, hnd⟩ := hc
        obtain ⟨x, a1, a2, a3, a4, hx, hr, _, _⟩ := run_bind hr
        obtain ⟨xs, wx⟩ := x
        have h1 := (run_ret hr).1
        injection h1 with h1 h2
        subst h1; subst h2
        obtain ⟨zv, hzr, hzc⟩ := run_zero hz
        obtain ⟨c1, c2, c3⟩ := constsPV_rep hzc w (okP w m G)
        have hzs : zv.cells.size = s + 1 := by rw [← hzl]; simpa using c1
        -- the cells before the parts are filled in
        have hc0 : EltsOk (RepL w (okP w m G) G) (Array.map (fun i => zv.cells[i % zv.cells.size]!) (Array.range (n * (s + 1)))) n (s + 1) (fun _ => z) := by
          refine ⟨by simp, fun _ _ => hzl, fun i j u p hi hu hp => ?_⟩
          have hp : z[j]? = some p := hp
          have hj : j < s + 1 := by have := (List.getElem?_eq_some_iff.1 hp).1; omega
          have hij := mul_lt hi hj
          obtain ⟨u', hu', hrep⟩ := c3 j p hp
          have hm : (i * (s + 1) + j) % (s + 1) = j := by rw [Nat.mul_comm, Nat.mul_add_mod]; exact Nat.mod_eq_of_lt hj
          have hju : zv.cells[j]! = u' := by
            have : zv.cells[j]? = some u' := by simpa using hu'
            rw [getElem!_def, this]
          simp only [Array.getElem?_map, Array.getElem?_range, if_pos hij, Option.map_some, hzs, hm, hju, Option.some.injEq] at hu
          subst hu
          exact .pl hrep (c2 p (List.mem_of_getElem? hp))
        obtain ⟨cur', f1, f2, f3, f4⟩ := fillE_sim hp hc0 (fun y hy => hall y hy) hnd
        have hE : ∀ i, i < n → (fillE z n l)[i]? = some ((get l i).getD z) := fun i hi => by simp [fillE, hi]
        have hEl : (fillE z n l).length = n := by simp [fillE]
        obtain ⟨g1, g2, g3, g4, g5, g6, g7⟩ := sealLL_sim (vs := (List.range n).map fun i => (cur'.toList.drop (i * (s + 1))).take (s + 1)) h (Fro.refl m) hx (by simp [fillE]) (fun i v p hv hp => by
          have hi : i < n := by have := (List.getElem?_eq_some_iff.1 hp).1; omega
          simp [hi] at hv
          subst hv
          rw [hE i hi] at hp
          injection hp with hp
          subst hp
          have hle' : i * (s + 1) + (s + 1) ≤ n * (s + 1) := by
            have : (i + 1) * (s + 1) ≤ n * (s + 1) := Nat.mul_le_mul_right _ hi
            rw [Nat.add_mul, Nat.one_mul] at this
            exact this
          refine ⟨?_, fun j u x hu hx => ?_⟩
          · have := f3 i hi
            simp only at this
            rw [this]; simp [f2]; omega
          · have hj : j < s + 1 := by have := (List.getElem?_eq_some_iff.1 hx).1; have h2 := f3 i hi; simp only at h2; omega
            rw [List.getElem?_take_of_lt hj, List.getElem?_drop] at hu
            exact f4 i j u x hi (by simpa using hu) hx)
        rw [hEl] at g4
        obtain ⟨hR, hA⟩ := g1.newRow hf.zero.1 hf.sub hf.zero.2 cur' e (s + 1) n xs (by rw [g4]; exact Nat.le_refl _) (by rw [f2]; exact Nat.le_refl _) (fun q hq => by
            obtain ⟨i, hi⟩ := List.getElem?_of_mem hq
            have hin : i < n := by have := (List.getElem?_eq_some_iff.1 hi).1; omega
            rw [g6 i _ q (hE i hin) hi]
            exact f3 i hin) (fun q hq p hp => g5 q hq p hp) (fun i q j p hi hp => by
            have hin : i < n := by have := (List.getElem?_eq_some_iff.1 hi).1; omega
            have hql := g6 i _ q (hE i hin) hi
            have hfl := f3 i hin
            simp only at hfl
            have hj : j < s + 1 := by have := (List.getElem?_eq_some_iff.1 hp).1; omega
            have hij := mul_lt hin hj
            refine ⟨cur'[i * (s + 1) + j], by simp [f2, hij], ?_⟩
            exact g7 i ((cur'.toList.drop (i * (s + 1))).take (s + 1)) q (by simp [hin]) hi j _ p (by rw [List.getElem?_take_of_lt hj, List.getElem?_drop]; simp [f2, hij]) hp)
        refine ⟨.slice (some ⟨w.heap.size, 0, none⟩) xs.length n, w.alloc (.cells cur' e (0, 0)), ?_, G.withV fid (.slice (some ⟨w.heap.size, 0, none⟩) xs.length n) (s + 1), ?_, ?_, ?_⟩
        · have hle' : ¬ (16777216 < n * (s + 1)) := by omega
          by_cases hn0 : n * (s + 1) = 0
          · have hn : n = 0 := by rcases Nat.mul_eq_zero.1 hn0 with h | h <;> omega
            subst hn
            have hvs : vs.toList = [] := by
              cases hl : vs.toList with
              | nil => rfl
              | cons y r =>
                rw [hl] at hp
                cases hp with
                | cons _ _ => have := hall _ (List.mem_cons_self); omega
            have hcur : cur' = #[] := Array.eq_empty_of_size_eq_zero (by rw [f2]; simp)
            subst hcur
            have hr0 : Array.range 0 = #[] := rfl
            simp [Instr.buildSlice, run_underlying hu, run_sizeOf' hs, hvs, Instr.fill, newRow, newObj, Sem.run, g4, hr0]
          · have hf1 := f1
            simp [Instr.buildSlice, run_underlying hu, run_sizeOf' hs, hzr, hle', hn0, hf1, newRow, newObj, Sem.run, g4]
            first | done | rfl | (intro h0; exact absurd h0 (by omega))
        · rw [putF_append]; exact hR
        · rw [putF_append]; exact g3.trans hA
        · exact .leaf (.h (by simp [Gh.withV, upd_eq]) rfl)
      · exact (run_fail hr).elim
    · exact (run_fail hr).elim
  · exact (run_fail hr).elim
end Go.Den

/- Den, part K: stores. -/
namespace Go.Den
variable {P : Program} {w0 w : World} {bl : List Nat} {D D' : Nat → Prop} {m : Nat → Option Ent} {G : Gh}

theorem frozen_of {w : World} {g o : Nat} {cur : Array Value} {t : TypeId} {fz : Nat × Nat} (h : w.heap[g]? = some (.cells cur t fz)) (hz : noFz fz cur.size) (ho : o < cur.size) : w.frozen? ⟨g, o, none⟩ = false := by
  obtain ⟨lo, hi⟩ := fz
  have h1 := hz.out ho
  simp only at h1
  cases hb : w.frozen? ⟨g, o, none⟩ with
  | false => rfl
  | true =>
    simp [World.frozen?, h] at hb
    exact absurd hb h1
theorem storeCells_run {w : World} {g o : Nat} {cur : Array Value} {t : TypeId} {fz : Nat × Nat} (h : w.heap[g]? = some (.cells cur t fz)) (hz : noFz fz cur.size) (vs : List Value) (hle : o + vs.length ≤ cur.size) (h1 : ∀ v ∈ vs, v.oneCell' = true) :
    (storeCells ⟨g, o, none⟩ vs).run P w = .ok () (w.setCells g o vs) := by
  have := run_storeCells_cells (P := P) g o vs 0 w (fun j hj => by
    rw [cell_of_heap h]
    simp; omega) (fun j hj => frozen_of h hz (by omega)) h1
  simpa using this
theorem CellsOk.ex {R : Value → PV → Prop} {cur : Array Value} {cs : List PV} (h : CellsOk R cur cs) (j : Nat) (p : PV) (hp : cs[j]? = some p) : ∃ u, cur[j]? = some u ∧ R u p := by
  have hj : j < cur.size := by rw [h.1]; exact (List.getElem?_eq_some_iff.1 hp).1
  exact ⟨cur[j], by simp [hj], h.2 j _ p (by simp [hj]) hp⟩

theorem putF_other {d : Nat} : ∀ (wq : Wr) (m : Nat → Option Ent), (wq.all fun x => !(x.1 == d)) = true → putF m wq d = m d := by
  intro wq
  induction wq with
  | nil => intro m _; rfl
  | cons x r ih =>
    intro m hx
    obtain ⟨k, x⟩ := x
    simp only [List.all_cons, Bool.and_eq_true, Bool.not_eq_true', beq_eq_false_iff_ne] at hx
    have hne : d ≠ k := fun h => hx.1 h.symm
    cases x with
    | set c => simp only [putF]; rw [ih _ hx.2, upd_ne _ _ hne]
    | del => simp only [putF]; rw [ih _ hx.2, upd_ne _ _ hne]
    | fz =>
      simp only [putF]
      rw [ih _ hx.2]
      cases m k with
      | none => rfl
      | some e => simp only [upd_ne _ _ hne]
theorem storeS_sim (h : RelW w0 bl D w m G) (hD : ∀ d, D d → D' d) {t : TypeId} {a : PV} {v : List PV} {r : PV} {wr : Wr} {l o} {a' x' : Value} (hr : (storeS P t a v).run m = some ((r, wr), l, o)) (ha : RepS w (okP w m G) G a' a)
    (hx : x'.cells.size = v.length ∧ ∀ (j : Nat) u q, x'.cells[j]? = some u → v[j]? = some q → RepL w (okP w m G) G u q) :
    r = .undef ∧ ∃ w', (Instr.storeAt t a' x').run P w = .ok () w' ∧ After w0 bl D' w m G r wr Go.undef w' := by
  unfold storeS at hr
  have hone : ∀ u ∈ x'.cells.toList, u.oneCell' = true := fun u hu => by
    obtain ⟨j, hj⟩ := List.getElem?_of_mem hu
    have hjl : j < v.length := by have := (List.getElem?_eq_some_iff.1 hj).1; simp at this; omega
    exact (hx.2 j u _ (by simpa using hj) (List.getElem?_eq_getElem hjl)).one.1
  cases hn : tSize P t with
  | none => simp only [hn] at hr; exact (run_fail hr).elim
  | some n =>
    simp only [hn] at hr
    split at hr
    · rename_i hlen
      have hlen : v.length = n := by simpa using hlen
      have hrun : ∀ ad : Addr, (Instr.storeAt t (.pointer (some ad)) x').run P w = (storeCells ad x'.cells.toList).run P w := fun ad => by
        simp [Instr.storeAt, Instr.sureAddr, storeVar, run_sizeOf' hn, hx.1, hlen]
      cases a with
      | pb d off =>
        obtain ⟨c, l', hm, hk⟩ := run_own hr
        cases c with
        | row => exact (run_fail hk).elim
        | box cs =>
          simp only at hk
          split at hk
          · rename_i hle
            cases hpt : isPtrT P t with
            | false =>
              simp only [hpt] at hk
              have h1 := (run_ret hk).1
              injection h1 with h1 h2
              subst h1; subst h2
              obtain ⟨b, hb, rfl⟩ := ha.pb
              obtain ⟨b', hb', cur, t1, fz, hh, hs, hz, hc⟩ := h.ent d _ hm
              rw [hb] at hb'
              injection hb' with hb'
              subst hb'
              have hco : CellsOk (RepL w (okP w m G) G) cur cs := ⟨hs, fun j u p hu hp => by
                obtain ⟨u', hu', hL⟩ := hc j p hp
                rw [hu] at hu'; injection hu' with hu'; subst hu'; exact hL⟩
              have hset := hco.set (v := x'.cells.toList) (ps := v) (off := off) (by simpa using hx.1) (fun j u p hu hp => hx.2 j u p (by simpa using hu) hp) (by omega)
              obtain ⟨hR, hA⟩ := h.boxSet hm hb hh hz off x'.cells.toList (splice cs off v) (splice_length (by omega)) hs hset.ex
              exact ⟨rfl, _, (hrun _).trans (storeCells_run hh hz _ (by simp; omega) hone), G, hR.widen hD, hA, .undef⟩
            | true =>
              simp only [hpt] at hk
              obtain ⟨y, a1, a2, a3, a4, hy, hk, _, _⟩ := run_bind hk
              obtain ⟨qs, wq⟩ := y
              simp only at hk
              split at hk
              · rename_i hall
                have h1 := (run_ret hk).1
                injection h1 with h1 h2
                subst h1; subst h2
                obtain ⟨g1, g2, g3, g4, g5, g6⟩ := sealL_sim (vs := x'.cells.toList) h (Fro.refl m) hy (by simpa using hx.1) (fun j u p hu hp => hx.2 j u p (by simpa using hu) hp)
                obtain ⟨b, hb, rfl⟩ := ha.pb
                have hm1 : putF m wq d = some ⟨true, .box cs⟩ := by rw [putF_other wq m hall, hm]
                obtain ⟨b', hb', cur, t1, fz, hh, hs, hz, hc⟩ := g1.ent d _ hm1
                rw [hb] at hb'
                injection hb' with hb'
                subst hb'
                have hco : CellsOk (RepL w (okP w (putF m wq) G) G) cur cs := ⟨hs, fun j u p hu hp => by
                  obtain ⟨u', hu', hL⟩ := hc j p hp
                  rw [hu] at hu'; injection hu' with hu'; subst hu'; exact hL⟩
                have hset := hco.set (v := x'.cells.toList) (ps := qs) (off := off) (by rw [g4]; simpa using hx.1) (fun j u p hu hp => .pl (g6 j u p hu hp) (g5 p (List.mem_of_getElem? hp))) (by omega)
                obtain ⟨hR, hA⟩ := g1.boxSet hm1 hb hh hz off x'.cells.toList (splice cs off qs) (splice_length (by omega)) hs hset.ex
                refine ⟨rfl, _, (hrun _).trans (storeCells_run hh hz _ (by simp; omega) hone), G, ?_, ?_, .undef⟩
                · rw [putF_append]; exact hR.widen hD
                · rw [putF_append]; exact g3.trans hA
              · exact (run_fail hk).elim
          · exact (run_fail hk).elim
      | pe d i off =>
        obtain ⟨c, l', hm, hk⟩ := run_own hr
        cases c with
        | box => exact (run_fail hk).elim
        | row e sz xs =>
          simp only at hk
          cases hxi : xs[i]? with
          | none => simp only [hxi] at hk; exact (run_fail hk).elim
          | some cs =>
            simp only [hxi] at hk
            obtain ⟨y, a1, a2, a3, a4, hy, hk, _, _⟩ := run_bind hk
            obtain ⟨qs, wq⟩ := y
            simp only at hk
            split at hk
            · rename_i hle
              obtain ⟨hle, hall⟩ := hle
              have h1 := (run_ret hk).1
              injection h1 with h1 h2
              subst h1; subst h2
              obtain ⟨g1, g2, g3, g4, g5, g6⟩ := sealL_sim (vs := x'.cells.toList) h (Fro.refl m) hy (by simpa using hx.1) (fun j u p hu hp => hx.2 j u p (by simpa using hu) hp)
              obtain ⟨g, n', c', hV, rfl⟩ := ha.pe
              have hm1 : putF m wq d = some ⟨true, .row e sz xs⟩ := by
                rw [putF_other wq m hall, hm]
              obtain ⟨v1, hV1, hz, hrow⟩ := g1.ent d _ hm1
              rw [hV] at hV1
              injection hV1 with hV1
              subst hV1
              rcases hrow with ⟨h0, _⟩ | ⟨g', c1, cur, fz, hv1, hh, hc1, hcur, hfz, hlen1, hpl, hcell⟩
              · cases h0
              · injection hv1 with hg hn' hc'
                injection hg with hg
                injection hg with hg
                subst hg; subst hn'; subst hc'
                have hi : i < xs.length := (List.getElem?_eq_some_iff.1 hxi).1
                have hcs : cs.length = sz := hlen1 cs (List.mem_of_getElem? hxi)
                have hib : i * sz + sz ≤ cur.size := by
                  have : (i + 1) * sz ≤ c' * sz := Nat.mul_le_mul_right _ (by omega)
                  rw [Nat.add_mul] at this
                  omega
                have hlx : x'.cells.toList.length = n := by simp; omega
                have hrep : ∀ (k : Nat) x (j : Nat) p, (xs.set i (splice cs off qs))[k]? = some x → x[j]? = some p → ∃ u, (arrSet cur (i * sz + off) x'.cells.toList)[k * sz + j]? = some u ∧ Rep w (okP w (putF m wq) G) u p := by
                  intro k x j p hk hp
                  by_cases hki : k = i
                  · subst hki
                    rw [List.getElem?_set_self hi] at hk
                    injection hk with hk
                    subst hk
                    rw [splice_get _ _ _ _ (by omega)] at hp
                    split at hp
                    · rename_i hj
                      obtain ⟨j', rfl⟩ : ∃ j', j = off + j' := ⟨j - off, by omega⟩
                      rw [Nat.add_sub_cancel_left] at hp
                      obtain ⟨u, hu⟩ : ∃ u, x'.cells.toList[j']? = some u := ⟨_, List.getElem?_eq_getElem (by omega)⟩
                      refine ⟨u, ?_, g6 j' u p hu hp⟩
                      rw [show k * sz + (off + j') = k * sz + off + j' by omega]
                      exact arrSet_in _ _ _ (by omega) j' u hu
                    · rename_i hj
                      obtain ⟨u, hu, hr⟩ := hcell k cs j p hxi hp
                      refine ⟨u, ?_, hr⟩
                      rw [arrSet_out _ _ _ _ (by omega)]
                      exact hu
                  · rw [List.getElem?_set_ne (fun h => hki h.symm)] at hk
                    obtain ⟨u, hu, hr⟩ := hcell k x j p hk hp
                    have hj : j < sz := by have := (List.getElem?_eq_some_iff.1 hp).1; rw [hlen1 x (List.mem_of_getElem? hk)] at this; exact this
                    refine ⟨u, ?_, hr⟩
                    rw [arrSet_out _ _ _ _ (by
                      rcases Nat.lt_or_gt_of_ne hki with h | h
                      · have : (k + 1) * sz ≤ i * sz := Nat.mul_le_mul_right _ h
                        rw [Nat.add_mul] at this
                        omega
                      · have : (i + 1) * sz ≤ k * sz := Nat.mul_le_mul_right _ h
                        rw [Nat.add_mul] at this
                        omega)]
                    exact hu
                obtain ⟨hR, hA⟩ := g1.rowSet hm1 hV hh hfz (i * sz + off) x'.cells.toList (xs.set i (splice cs off qs)) (by simp) hc1 hcur (fun x hx => by
                    rcases List.mem_or_eq_of_mem_set hx with hx | rfl
                    · exact hlen1 x hx
                    · rw [splice_length (by omega), hcs]) (fun x hx p hp => by
                    rcases List.mem_or_eq_of_mem_set hx with hx | rfl
                    · exact hpl x hx p hp
                    · simp only [splice, List.mem_append] at hp
                      rcases hp with (hp | hp) | hp
                      · exact hpl cs (List.mem_of_getElem? hxi) p (List.mem_of_mem_take hp)
                      · exact g5 p hp
                      · exact hpl cs (List.mem_of_getElem? hxi) p (List.mem_of_mem_drop hp)) hz hrep
                have hw : putF m (wq ++ [(d, .set (.row e sz (xs.set i (splice cs off qs))))]) = upd (putF m wq) d (some ⟨true, .row e sz (xs.set i (splice cs off qs))⟩) := by rw [putF_append]; rfl
                refine ⟨rfl, w.setCells g (i * sz + off) x'.cells.toList, ?_, G, ?_, ?_, .undef⟩
                · rw [hrun, hz]
                  exact storeCells_run hh hfz _ (by omega) hone
                · rw [hw]; exact hR.widen hD
                · rw [hw]; exact g3.trans hA
            · exact (run_fail hk).elim
      | _ => exact (run_fail hr).elim
    · exact (run_fail hr).elim
end Go.Den

/- Den, part L: lengths, cuts, appends. -/
namespace Go.Den
variable {P : Program} {w0 w : World} {bl : List Nat} {D D' : Nat → Prop} {m : Nat → Option Ent} {G : Gh}

/-- What a slice's value is, whatever it is told by. -/
theorem lenOf_val (h : RelW w0 bl D w m G) {a : PV} {a' : Value} {n : Nat} {l o} (hr : (Den.lenOf a).run m = some (n, l, o)) (ha : RepS w (okP w m G) G a' a) : ∃ ad c, a' = .slice ad n c ∧ n ≤ c := by
  cases a with
  | nils => have := (run_ret hr).1; subst this; have := ha.nils; subst this; exact ⟨none, 0, rfl, Nat.le_refl _⟩
  | sl sz xs =>
    have := (run_ret hr).1; subst this
    have := ha.rep rfl
    cases this with
    | sl ad c _ _ vs hc => exact ⟨ad, c, rfl, hc⟩
  | h d =>
    obtain ⟨e, l', hm, hk⟩ := run_rdc hr
    obtain ⟨own, c⟩ := e
    cases c with
    | box => exact (run_fail hk).elim
    | row e sz xs =>
      have := (run_ret hk).1; subst this
      obtain ⟨v, hv, _, _, _, ad, c, rfl, hc, _⟩ := (h.ent d _ hm).row
      have := ha.h.1
      rw [hv] at this; injection this with this; subst this
      exact ⟨ad, c, rfl, hc⟩
  | _ => exact (run_fail hr).elim
theorem lenS_sim (h : RelW w0 bl D w m G) (hD : ∀ d, D d → D' d) {ts : Array TypeId} {ty : TypeId} {a v : PV} {wr : Wr} {l o} {a' : Value} (hr : (lenS P ts[0]? a).run m = some ((v, wr), l, o)) (ha : RepS w (okP w m G) G a' a) :
    ∃ v', (Builtin.len_ ts ty #[a']).run P w = .ok v' w ∧ After w0 bl D' w m G v wr v' w := by
  unfold lenS at hr
  cases ht : ts[0]? with
  | none => simp only [ht] at hr; exact (run_fail hr).elim
  | some t =>
    simp only [ht] at hr
    split at hr
    · rename_i hu
      split at hr
      · have h1 := (run_ret hr).1
        injection h1 with h1 h2
        subst h1; subst h2
        obtain ⟨s, rfl, rfl⟩ := ha.str
        have hl : (s.data.toList.length : Int) = (s.size : Int) := by rw [Array.length_toList]; rfl
        exact ⟨.int .i64 s.size, by simp [Builtin.len_, ht, run_underlying hu, goInt], After.quiet h hD (by rw [hl]; exact .leaf (.pl (.int ..) rfl))⟩
      · exact (run_fail hr).elim
    · rename_i e hu
      obtain ⟨n, a1, a2, a3, a4, hn, hr, _, _⟩ := run_bind hr
      have h1 := (run_ret hr).1
      injection h1 with h1 h2
      subst h1; subst h2
      obtain ⟨ad, c, rfl, _⟩ := lenOf_val h hn ha
      exact ⟨.int .i64 n, by simp [Builtin.len_, ht, run_underlying hu, goInt], After.quiet h hD (.leaf (.pl (.int ..) rfl))⟩
    · exact (run_fail hr).elim

/-! ### what is appended -/
/-- A list of elements, laid in values. -/
def Laid (w : World) (ok : Nat → Prop) (n : Nat) (ys : List (List PV)) (news : List Value) : Prop :=
  news.length = ys.length * n ∧ (∀ y ∈ ys, y.length = n) ∧ (∀ y ∈ ys, ∀ p ∈ y, plainLeaf p = true) ∧ ∀ (i : Nat) y (j : Nat) p, ys[i]? = some y → y[j]? = some p → ∃ u, news[i * n + j]? = some u ∧ Rep w ok u p
/-- What append looks at in its second argument. -/
def Gives (P : Program) (w : World) (n k : Nat) (news : List Value) (y' : Value) : Prop :=
  (∀ w', (Builtin.lenOf y').run P w' = .ok k w') ∧ ∀ w' : World, w'.heap = w.heap → (Builtin.firstCells n k y').run P w' = .ok news.toArray w'
theorem cell_same {w w' : World} (h : w'.heap = w.heap) (a : Addr) : w'.cell? a = w.cell? a := by simp [World.cell?, h]

theorem laid_cells {ok : Nat → Prop} {n c : Nat} {ys : List (List PV)} {ad : Option Addr} (hlen : ∀ y ∈ ys, y.length = n) (hpl : ∀ y ∈ ys, ∀ p ∈ y, plainLeaf p = true)
    (hcell : ∀ (i : Nat) y (j : Nat) p, ys[i]? = some y → y[j]? = some p → ∃ g o, ad = some ⟨g, o, none⟩ ∧ ∃ u, w.cell? ⟨g, o + (i * n + j), none⟩ = some u ∧ Rep w ok u p) (hnil : ad = none → ys = []) :
    ∃ news, Laid w ok n ys news ∧ Gives P w n ys.length news (.slice ad ys.length c) := by
  by_cases h0 : ys.length * n = 0
  · refine ⟨[], ⟨by simp [h0], hlen, hpl, fun i y j p hy hp => ?_⟩, fun _ => rfl, fun w' hw => ?_⟩
    · have hi := (List.getElem?_eq_some_iff.1 hy).1
      have hj := (List.getElem?_eq_some_iff.1 hp).1
      rw [hlen y (List.mem_of_getElem? hy)] at hj
      have := mul_lt hi hj
      omega
    · cases ad with
      | none => simp [Builtin.firstCells]
      | some a => simp [Builtin.firstCells, h0, loadCells, loadCellsFrom]
  · have hpos : 0 < ys.length ∧ 0 < n := by
      constructor
      · exact Nat.pos_of_ne_zero fun h => h0 (by rw [h]; simp)
      · exact Nat.pos_of_ne_zero fun h => h0 (by rw [h]; simp)
    obtain ⟨y0, hy0⟩ : ∃ y, ys[0]? = some y := ⟨_, List.getElem?_eq_getElem hpos.1⟩
    obtain ⟨p0, hp0⟩ : ∃ p, y0[0]? = some p := ⟨_, List.getElem?_eq_getElem (by rw [hlen y0 (List.mem_of_getElem? hy0)]; exact hpos.2)⟩
    obtain ⟨g, o, rfl, _⟩ := hcell 0 y0 0 p0 hy0 hp0
    have hall : ∀ k, k < ys.length * n → ∃ u, w.cell? ⟨g, o + k, none⟩ = some u := fun k hk => by
      have hi : k / n < ys.length := Nat.div_lt_of_lt_mul (by rw [Nat.mul_comm]; exact hk)
      obtain ⟨y, hy⟩ : ∃ y, ys[k / n]? = some y := ⟨_, List.getElem?_eq_getElem hi⟩
      obtain ⟨p, hp⟩ : ∃ p, y[k % n]? = some p := ⟨_, List.getElem?_eq_getElem (by rw [hlen y (List.mem_of_getElem? hy)]; exact Nat.mod_lt _ hpos.2)⟩
      obtain ⟨g', o', he, u, hu, _⟩ := hcell _ y _ p hy hp
      injection he with he; injection he with he1 he2; subst he1; subst he2
      rw [show k / n * n + k % n = k by rw [Nat.mul_comm]; exact Nat.div_add_mod k n] at hu
      exact ⟨u, hu⟩
    refine ⟨(List.range (ys.length * n)).map fun k => (w.cell? ⟨g, o + k, none⟩).getD Go.undef, ⟨by simp, hlen, hpl, fun i y j p hy hp => ?_⟩, fun _ => rfl, fun w' hw => ?_⟩
    · have hi := (List.getElem?_eq_some_iff.1 hy).1
      have hj := (List.getElem?_eq_some_iff.1 hp).1
      rw [hlen y (List.mem_of_getElem? hy)] at hj
      have hij := mul_lt hi hj
      obtain ⟨g', o', he, u, hu, hr⟩ := hcell i y j p hy hp
      injection he with he; injection he with he1 he2; subst he1; subst he2
      exact ⟨u, by simp [hij, hu], hr⟩
    · have := run_loadCells_list (P := P) w' ⟨g, o, none⟩ ((List.range (ys.length * n)).map fun k => (w.cell? ⟨g, o + k, none⟩).getD Go.undef) (fun j v hj => by
        have hjl : j < ys.length * n := by have := (List.getElem?_eq_some_iff.1 hj).1; simpa using this
        obtain ⟨u, hu⟩ := hall j hjl
        simp [hjl, hu] at hj
        subst hj
        rw [add_off, cell_same hw]
        exact hu)
      simpa [Builtin.firstCells] using this
theorem elemsOf_gives (h : RelW w0 bl D w m G) {n : Nat} (hn : 0 < n) {a : PV} {a' : Value} {ys : List (List PV)} {l o} (hr : (elemsOf n a).run m = some (ys, l, o)) (ha : RepS w (okP w m G) G a' a) :
    ∃ news ad c, a' = .slice ad ys.length c ∧ (ad = none → ys = []) ∧ Laid w (okP w m G) n ys news ∧ Gives P w n ys.length news a' := by
  have fin : ∀ {ad : Option Addr} {c : Nat}, (ad = none → ys = []) → (∃ news, Laid w (okP w m G) n ys news ∧ Gives P w n ys.length news (.slice ad ys.length c)) → ∃ news ad' c', Value.slice ad ys.length c = .slice ad' ys.length c' ∧ (ad' = none → ys = []) ∧ Laid w (okP w m G) n ys news ∧ Gives P w n ys.length news (.slice ad ys.length c) :=
    fun h0 ⟨news, h1, h2⟩ => ⟨news, _, _, rfl, h0, h1, h2⟩
  cases a with
  | nils =>
    have := (run_ret hr).1; subst this; have := ha.nils; subst this
    exact fin (fun _ => rfl) (laid_cells (by simp) (by simp) (by simp) (fun _ => rfl))
  | sl sz xs =>
    simp only [elemsOf] at hr
    split at hr
    · rename_i hsz
      have hsz : sz = n := by simpa using hsz
      subst hsz
      have := (run_ret hr).1; subst this
      have := ha.rep rfl
      cases this with
      | sl ad c _ _ vs hc hz hp hcell hv =>
        have hnil : ad = none → ys = [] := fun h0 => by
          subst h0
          cases ys with
          | nil => rfl
          | cons y r =>
            obtain ⟨p, hp'⟩ : ∃ p, y[0]? = some p := ⟨_, List.getElem?_eq_getElem (by rw [hz y (by simp)]; exact hn)⟩
            obtain ⟨g, o, h1, _⟩ := hcell 0 y 0 p rfl hp'
            cases h1
        refine fin hnil (laid_cells hz hp (fun i y j p hy hpp => ?_) hnil)
        obtain ⟨g, o, h1, _, h2⟩ := hcell i y j p hy hpp
        exact ⟨g, o, h1, _, h2, hv i y j p hy hpp⟩
    · exact (run_fail hr).elim
  | h d =>
    obtain ⟨e, l', hm, hk⟩ := run_rdc hr
    obtain ⟨own, c⟩ := e
    cases c with
    | box => exact (run_fail hk).elim
    | row e sz xs =>
      simp only at hk
      split at hk
      · rename_i hsz
        have hsz : sz = n := by simpa using hsz
        subst hsz
        have := (run_ret hk).1; subst this
        obtain ⟨v, hv, _, hlen, hpl, ad, c, rfl, hc, hne, hcell⟩ := (h.ent d _ hm).row
        have := ha.h.1
        rw [hv] at this; injection this with this; subst this
        have hnil : ad = none → ys = [] := fun h0 => by
          subst h0
          by_cases hys : ys = []
          · exact hys
          · obtain ⟨g, hg⟩ := hne hys
            cases hg
        refine fin hnil (laid_cells hlen hpl (fun i y j p hy hpp => ?_) hnil)
        obtain ⟨g, h1, u, hu, hr⟩ := hcell i y j p hy hpp
        exact ⟨g, 0, h1, u, by rw [Nat.zero_add]; exact hu, hr⟩
      · exact (run_fail hk).elim
  | _ => exact (run_fail hr).elim
theorem ofBytes_laid (ok : Nat → Prop) (l : List UInt8) : Laid w ok 1 (ofBytes l) (l.map fun b => .int .u8 b.toNat) := by
  refine ⟨by simp [ofBytes], by simp [ofBytes], by simp [ofBytes, plainLeaf], fun i y j p hy hp => ?_⟩
  simp only [ofBytes, List.getElem?_map] at hy
  cases hb : l[i]? with
  | none => simp [hb] at hy
  | some b =>
    simp [hb] at hy
    subst hy
    cases j with
    | succ j => simp at hp
    | zero =>
      simp at hp
      subst hp
      exact ⟨.int .u8 b.toNat, by simp [hb], .int ..⟩
theorem str_gives (s : ByteArray) : Gives P w 1 (ofBytes s.data.toList).length (s.data.toList.map fun b => .int .u8 b.toNat) (.string s) := by
  have hl : s.data.toList.length = s.size := by rw [Array.length_toList]; rfl
  have hl2 : (ofBytes s.data.toList).length = s.size := by rw [ofBytes, List.length_map]; exact hl
  refine ⟨fun w' => by rw [hl2]; rfl, fun w' _ => ?_⟩
  have he : (s.extract 0 s.size).data.toList = s.data.toList := by
    rw [Lib.extract_data, ← hl, List.drop_zero, Nat.sub_zero, List.take_length]
  have he' : (s.extract 0 s.size).data = s.data := Array.ext' he
  rw [hl2]
  simp only [Builtin.firstCells, he', Sem.run_pure]
  congr 1
  apply Array.ext'
  simp

/-! ### append -/
section
variable {t t' ty e : TypeId} {n b : Nat} {u : TypeDesc} {i : TypeInfo}
theorem append_room (hu : P.underlying t = some (.slice e)) (hu' : P.underlying t' = some u) (hu2 : u = .string ∨ ∃ e', u = .slice e') (hi : P.info? e = some i) {g sLen sCap k : Nat} {news : List Value} {y' : Value} (hg : Gives P w i.size k news y') (hroom : sLen + k ≤ sCap)
    {cur : Array Value} {ct : TypeId} {fz : Nat × Nat} (hh : w.heap[g]? = some (.cells cur ct fz)) (hz : noFz fz cur.size) (hle : sLen * i.size + news.length ≤ cur.size) (h1 : ∀ v ∈ news, v.oneCell' = true) :
    (Builtin.append_ #[t, t'] ty #[.slice (some ⟨g, 0, none⟩) sLen sCap, y']).run P w = .ok (.slice (some ⟨g, 0, none⟩) (sLen + k) sCap) (w.setCells g (sLen * i.size) news) := by
  have hst := storeCells_run (P := P) (o := sLen * i.size) hh hz news hle h1
  have hf := hg.2 w rfl
  rcases hu2 with rfl | ⟨e', rfl⟩ <;> simp [Builtin.append_, run_underlying hu, run_underlying hu', Go.sizeOf, typeInfo, hi, hg.1, hroom, hf, add_off, hst]
theorem append_nothing (hu : P.underlying t = some (.slice e)) (hu' : P.underlying t' = some u) (hu2 : u = .string ∨ ∃ e', u = .slice e') (hi : P.info? e = some i) {news : List Value} {y' : Value} (hg : Gives P w i.size 0 news y') :
    (Builtin.append_ #[t, t'] ty #[.slice none 0 0, y']).run P w = .ok (.slice none 0 0) w := by
  have hf := hg.2 w rfl
  rcases hu2 with rfl | ⟨e', rfl⟩ <;> simp [Builtin.append_, run_underlying hu, run_underlying hu', Go.sizeOf, typeInfo, hi, hg.1, hf]
theorem append_grow (hu : P.underlying t = some (.slice e)) (hu' : P.underlying t' = some u) (hu2 : u = .string ∨ ∃ e', u = .slice e') (hi : P.info? e = some i) {z : Value} (hz : i.zero = some z) {base : Option Addr} {sLen sCap k : Nat} {olds news : List Value} {y' : Value} (hg : Gives P w i.size k news y')
    (ho : ∀ w' : World, w'.heap = w.heap → (Builtin.firstCells i.size sLen (.slice base sLen sCap)).run P w' = .ok olds.toArray w') (hgrow : sCap < sLen + k) (hlim : (sLen + k) * (i.bytes + 1) ≤ lim) :
    ∃ (c : Nat) (rest : Array Value), sLen + k ≤ c ∧ rest.size = (c - (sLen + k)) * z.cells.size ∧ (Builtin.append_ #[t, t'] ty #[.slice base sLen sCap, y']).run P w =
      .ok (.slice (some ⟨w.heap.size, 0, none⟩) (sLen + k) c) (w.drew.alloc (.cells (olds.toArray ++ news.toArray ++ rest) e (0, 0))) := by
  have hlim' : (sLen + k) * i.bytes + (sLen + k) ≤ 70368744177664 := by rw [Nat.mul_add, Nat.mul_one] at hlim; exact hlim
  have hn : ¬ (sLen + k ≤ sCap) := by omega
  have h63' : ¬ (9223372036854775807 < ((sLen : Int) + (k : Int))) := by omega
  have h48' : ¬ (281474976710656 < Builtin.nextslicecap (sLen + k) sCap * i.bytes) := by
    have := growslice_fits hgrow (bytes := i.bytes) (by omega)
    omega
  have hf := hg.2 w.drew rfl
  have hfo := ho w.drew rfl
  refine ⟨grownCap w (sLen + k) sCap e, Builtin.zeroCells z.cells (grownCap w (sLen + k) sCap e - (sLen + k)), grownCap_ge .., size_zeroCells .., ?_⟩
  rcases hu2 with rfl | ⟨e', rfl⟩ <;> simp [Builtin.append_, run_underlying hu, run_underlying hu', Go.sizeOf, typeInfo, zeroValue, hi, hz, hg.1, hn, h63', h48', Question.forced, hf, hfo, newRow, grownCap] <;>
    (congr 2; apply Array.ext'; simp)
end
end Go.Den

/- Den, part M: append. -/
namespace Go.Den
variable {P : Program} {w0 w : World} {bl : List Nat} {D D' : Nat → Prop} {m : Nat → Option Ent} {G : Gh}

theorem upd_upd {α : Type} (f : Nat → α) (d : Nat) (x y : α) : upd (upd f d x) d y = upd f d y := by
  funext i; by_cases h : i = d <;> simp [upd, h]
theorem tInfo {e : TypeId} {n b : Nat} {z : List PV} (h1 : tSize P e = some n) (h2 : tBytes P e = some b) (h3 : tZero P e = some z) : ∃ i zv, P.info? e = some i ∧ i.size = n ∧ i.bytes = b ∧ i.zero = some zv ∧ constsPV zv.cells.toList = some z := by
  unfold tSize at h1
  cases hi : P.info? e with
  | none => simp [hi] at h1
  | some i =>
    simp [hi] at h1
    simp [tBytes, hi] at h2
    cases hz : i.zero with
    | none => simp [tZero, hi, hz] at h3
    | some zv => exact ⟨i, zv, rfl, h1, h2, hz, by simpa [tZero, hi, hz] using h3⟩
theorem Laid.one {ok n ys news} (h : Laid w ok n ys news) : ∀ v ∈ news, v.oneCell' = true := fun v hv => by
  obtain ⟨k, hk⟩ := List.getElem?_of_mem hv
  have hkl : k < ys.length * n := by rw [← h.1]; exact (List.getElem?_eq_some_iff.1 hk).1
  have hn : 0 < n := Nat.pos_of_ne_zero fun h0 => by subst h0; simp at hkl
  have hi : k / n < ys.length := Nat.div_lt_of_lt_mul (by rw [Nat.mul_comm]; exact hkl)
  obtain ⟨y, hy⟩ : ∃ y, ys[k / n]? = some y := ⟨_, List.getElem?_eq_getElem hi⟩
  obtain ⟨p, hp⟩ : ∃ p, y[k % n]? = some p := ⟨_, List.getElem?_eq_getElem (by rw [h.2.1 y (List.mem_of_getElem? hy)]; exact Nat.mod_lt _ hn)⟩
  obtain ⟨u, hu, hr⟩ := h.2.2.2 _ y _ p hy hp
  rw [show k / n * n + k % n = k by rw [Nat.mul_comm]; exact Nat.div_add_mod k n, hk] at hu
  injection hu with hu
  subst hu
  exact (hr.one (h.2.2.1 y (List.mem_of_getElem? hy) p (List.mem_of_getElem? hp))).1
theorem Laid.mono {w' ok ok' n ys news} (h : Laid w ok n ys news) (hk : ∀ k, ok k → ok' k ∧ w'.heap[k]? = w.heap[k]?) : Laid w' ok' n ys news :=
  ⟨h.1, h.2.1, h.2.2.1, fun i y j p hy hp => let ⟨u, hu, hr⟩ := h.2.2.2 i y j p hy hp; ⟨u, hu, hr.mono hk⟩⟩
/-- One behind the other. -/
theorem Laid.append {ok n xs ys olds news} (h : Laid w ok n xs olds) (k : Laid w ok n ys news) : Laid w ok n (xs ++ ys) (olds ++ news) := by
  refine ⟨by rw [List.length_append, List.length_append, h.1, k.1, Nat.add_mul], fun y hy => ?_, fun y hy => ?_, fun i y j p hy hp => ?_⟩
  · rcases List.mem_append.1 hy with hy | hy
    · exact h.2.1 y hy
    · exact k.2.1 y hy
  · rcases List.mem_append.1 hy with hy | hy
    · exact h.2.2.1 y hy
    · exact k.2.2.1 y hy
  · by_cases hi : i < xs.length
    · rw [List.getElem?_append_left hi] at hy
      obtain ⟨u, hu, hr⟩ := h.2.2.2 i y j p hy hp
      have hj : j < n := by rw [← h.2.1 y (List.mem_of_getElem? hy)]; exact (List.getElem?_eq_some_iff.1 hp).1
      have := mul_lt hi hj
      exact ⟨u, by rw [List.getElem?_append_left (by rw [h.1]; exact this)]; exact hu, hr⟩
    · rw [List.getElem?_append_right (by omega)] at hy
      obtain ⟨u, hu, hr⟩ := k.2.2.2 _ y j p hy hp
      have hge : xs.length * n ≤ i * n := Nat.mul_le_mul_right _ (by omega)
      refine ⟨u, ?_, hr⟩
      rw [List.getElem?_append_right (by rw [h.1]; omega), h.1]
      rw [← hu]
      congr 1
      rw [Nat.sub_mul]
      omega
/-- A row's cells, as a list. -/
theorem rowAt_laid {ok : Nat → Prop} {e sz : Nat} {xs : List (List PV)} {g c : Nat} {cur : Array Value} {fz : Nat × Nat} (_hh : w.heap[g]? = some (.cells cur e fz)) (hc : xs.length ≤ c) (hcur : c * sz ≤ cur.size) (hz : ∀ x ∈ xs, x.length = sz) (hp : ∀ x ∈ xs, ∀ p ∈ x, plainLeaf p = true)
    (hr : ∀ (i : Nat) x (j : Nat) p, xs[i]? = some x → x[j]? = some p → ∃ u, cur[i * sz + j]? = some u ∧ Rep w ok u p) : Laid w ok sz xs (cur.toList.take (xs.length * sz)) := by
  have hle : xs.length * sz ≤ cur.size := Nat.le_trans (Nat.mul_le_mul_right _ hc) hcur
  refine ⟨by simp; omega, hz, hp, fun i x j p hx hpp => ?_⟩
  obtain ⟨u, hu, hrep⟩ := hr i x j p hx hpp
  have hi := (List.getElem?_eq_some_iff.1 hx).1
  have hj : j < sz := by rw [← hz x (List.mem_of_getElem? hx)]; exact (List.getElem?_eq_some_iff.1 hpp).1
  have hij := mul_lt hi hj
  exact ⟨u, by rw [List.getElem?_take_of_lt hij]; simpa using hu, hrep⟩
/-- A new row out of a list of values, and what lies behind it. -/
theorem newRow_laid (h : RelW w0 bl D w m G) {fid : Nat} (hf : Fr D D' fid) {e sz c : Nat} {xs : List (List PV)} {vs : List Value} {rest : Array Value} {w' : World} (hl : Laid w (okP w m G) sz xs vs) (hc : xs.length ≤ c) (hrest : rest.size = (c - xs.length) * sz)
    (hw : w'.heap = w.heap.push (.cells (vs.toArray ++ rest) e (0, 0))) (hos : w'.os = w.os) (htape : w'.tape = w.tape) (hout : w'.output = w.output) :
    RelW w0 bl D' w' (upd m fid (some ⟨true, .row e sz xs⟩)) (G.withV fid (.slice (some ⟨w.heap.size, 0, none⟩) xs.length c) sz) ∧
    Adv w (okP w m G) G w' (okP w' (upd m fid (some ⟨true, .row e sz xs⟩)) (G.withV fid (.slice (some ⟨w.heap.size, 0, none⟩) xs.length c) sz)) (G.withV fid (.slice (some ⟨w.heap.size, 0, none⟩) xs.length c) sz) := by
  refine h.newRowG hf.zero.1 hf.sub hf.zero.2 (vs.toArray ++ rest) e sz c xs (fz := (0, 0)) (by rw [hw]; simp) (fun k hk => by rw [hw]; simp [Array.getElem?_push, Nat.ne_of_lt hk]) (by rw [hw]; simp) hos htape hout (noFz_zero _) hc ?_ hl.2.1 hl.2.2.1 (fun i x j p hx hp => ?_)
  · simp [hl.1, hrest, ← Nat.add_mul]
    exact Nat.mul_le_mul_right _ (by omega)
  · obtain ⟨u, hu, hr⟩ := hl.2.2.2 i x j p hx hp
    refine ⟨u, ?_, hr⟩
    have := (List.getElem?_eq_some_iff.1 hu).1
    rw [Array.getElem?_append_left (by simpa using this)]
    simpa using hu

theorem appendTo_sim (h : RelW w0 bl D w m G) {fid : Nat} (hf : Fr D D' fid) {t t' ty e : TypeId} {n b : Nat} {u : TypeDesc} {z : List PV} (hu : P.underlying t = some (.slice e)) (hu' : P.underlying t' = some u) (hu2 : u = .string ∨ ∃ e', u = .slice e')
    (hs : tSize P e = some n) (hb : tBytes P e = some b) (hz : tZero P e = some z) (hzn : z.length = n) {x v : PV} {wr : Wr} {l o} {x' y' : Value} {ys : List (List PV)} {news : List Value}
    (hr : (appendTo fid e n b ys x).run m = some ((v, wr), l, o)) (hx : RepS w (okP w m G) G x' x) (hl : Laid w (okP w m G) n ys news) (hg : Gives P w n ys.length news y') :
    ∃ v' w', (Builtin.append_ #[t, t'] ty #[x', y']).run P w = .ok v' w' ∧ After w0 bl D' w m G v wr v' w' := by
  obtain ⟨i, zv, hi, rfl, rfl, hzi, hzc⟩ := tInfo hs hb hz
  have hzs : zv.cells.size = i.size := by
    obtain ⟨c1, _⟩ := constsPV_rep hzc w (okP w m G)
    rw [← hzn]; simpa using c1
  -- a nil one, of whatever id
  have nilCase : ∀ d, (∀ x, m d = some x → ownB G d x = none) → ys.length * (i.bytes + 1) ≤ lim →
      ∃ v' w', (Builtin.append_ #[t, t'] ty #[.slice none 0 0, y']).run P w = .ok v' w' ∧ ∃ G', RelW w0 bl D' w' (upd (upd m d none) fid (some ⟨true, .row e i.size ys⟩)) G' ∧ Adv w (okP w m G) G w' (okP w' (upd (upd m d none) fid (some ⟨true, .row e i.size ys⟩)) G') G' ∧
        RepS w' (okP w' (upd (upd m d none) fid (some ⟨true, .row e i.size ys⟩)) G') G' v' (.h fid) := by
    intro d hd hlim
    by_cases h0 : ys = []
    · subst h0
      obtain ⟨hR, hA⟩ := h.nilMove (e := e) (sz := i.size) hf.zero.1 hf.sub hf.zero.2 hd
      exact ⟨_, w, append_nothing hu hu' hu2 hi hg, _, hR, hA, .leaf (.h (by simp [Gh.withV, upd_eq]) rfl)⟩
    · have hpos : 0 < ys.length := List.length_pos_iff.2 h0
      obtain ⟨c, rest, hc, hrest, hrun⟩ := append_grow (ty := ty) hu hu' hu2 hi hzi (base := none) (sLen := 0) (sCap := 0) (olds := []) hg (fun w' _ => by simp [Builtin.firstCells]) (by omega) (by rw [Nat.zero_add]; exact hlim)
      obtain ⟨h1, a1⟩ := h.gone d
      obtain ⟨hR, hA⟩ := newRow_laid (w' := w.drew.alloc (.cells (news.toArray ++ rest) e (0, 0))) h1 hf (hl.mono a1.ok) (c := c) (rest := rest) (e := e) (by omega) (by rw [hrest, hzs, Nat.zero_add]) rfl rfl rfl rfl
      refine ⟨.slice (some ⟨w.heap.size, 0, none⟩) ys.length c, w.drew.alloc (.cells (news.toArray ++ rest) e (0, 0)), by simpa using hrun, G.withV fid (.slice (some ⟨w.heap.size, 0, none⟩) ys.length c) i.size, hR, a1.trans hA, .leaf (.h (by simp [Gh.withV, upd_eq]) rfl)⟩
  cases x with
  | nils =>
    simp only [appendTo] at hr
    split at hr
    · rename_i hlim
      have h1 := (run_ret hr).1
      injection h1 with h1 h2
      subst h1; subst h2
      have := hx.nils; subst this
      obtain ⟨hm0, hV0, hB0⟩ := h.free hf.zero.1
      obtain ⟨v', w', hrun, G', hR, hA, hS⟩ := nilCase fid (fun x hx => by rw [hm0] at hx; cases hx) hlim
      rw [upd_upd] at hR hA hS
      exact ⟨v', w', hrun, G', hR, hA, hS⟩
    · exact (run_fail hr).elim
  | h d =>
    obtain ⟨c, l', hm, hk⟩ := run_own hr
    cases c with
    | box => exact (run_fail hk).elim
    | row e' sz xs =>
      simp only at hk
      split at hk
      · rename_i hc
        simp only [Bool.and_eq_true, beq_iff_eq, decide_eq_true_eq] at hc
        obtain ⟨⟨rfl, rfl⟩, hlim⟩ := hc
        have h1 := (run_ret hk).1
        injection h1 with h1 h2
        subst h1; subst h2
        have hV := hx.h.1
        obtain ⟨v1, hV1, hzd, hrow⟩ := h.ent d _ hm
        rw [hV] at hV1; injection hV1 with hV1; subst hV1
        rcases hrow with ⟨rfl, rfl⟩ | ⟨g, cap, cur, fz, rfl, hh, hcap, hcur, hfz, hlen, hpl, hcell⟩
        · rw [List.length_nil, Nat.zero_add] at hlim
          obtain ⟨v', w', hrun, G', hR, hA, hS⟩ := nilCase d (fun x hx => by rw [hm] at hx; injection hx with hx; subst hx; simp [ownB, hV, Value.ownBlock]) hlim
          exact ⟨v', w', hrun, G', by simpa [putF] using hR, by simpa [putF] using hA, by simpa [putF] using hS⟩
        · have hol := rowAt_laid (w := w) (ok := okP w m G) hh hcap hcur hlen hpl hcell
          have hall := hol.append hl
          have hl3 : (xs ++ ys).length = xs.length + ys.length := List.length_append
          by_cases hroom : xs.length + ys.length ≤ cap
          · have hle : xs.length * i.size + news.length ≤ cur.size := by
              rw [hl.1, ← Nat.add_mul]
              exact Nat.le_trans (Nat.mul_le_mul_right _ hroom) hcur
            have hrun := append_room (ty := ty) hu hu' hu2 hi hg hroom hh hfz hle hl.one
            obtain ⟨hR, hA⟩ := h.rowMove hf.zero.1 hf.sub hf.zero.2 hm hV hh hfz (xs.length * i.size) news (xs ++ ys) cap (by rw [hl3]; exact hroom) hcur hall.2.1 hall.2.2.1 (fun k x j p hk hp => by
              obtain ⟨u, hu, hr⟩ := hall.2.2.2 k x j p hk hp
              refine ⟨u, ?_, hr⟩
              by_cases hlt : k * i.size + j < xs.length * i.size
              · rw [List.getElem?_append_left (by rw [hol.1]; exact hlt), List.getElem?_take_of_lt hlt] at hu
                rw [arrSet_out _ _ _ _ (by omega)]
                simpa using hu
              · rw [List.getElem?_append_right (by rw [hol.1]; omega), hol.1] at hu
                have := arrSet_in news (xs.length * i.size) cur hle _ u hu
                rwa [show xs.length * i.size + (k * i.size + j - xs.length * i.size) = k * i.size + j by omega] at this)
            exact ⟨_, _, hrun, _, hR, hA, .leaf (.h (by simp [Gh.withV, upd_eq, hl3]) rfl)⟩
          · obtain ⟨c, rest, hc, hrest, hrun⟩ := append_grow (ty := ty) hu hu' hu2 hi hzi (base := some ⟨g, 0, none⟩) (sLen := xs.length) (sCap := cap) (olds := cur.toList.take (xs.length * i.size)) hg (fun w' hw' => by
                have := run_loadCells_list (P := P) w' ⟨g, 0, none⟩ (cur.toList.take (xs.length * i.size)) (fun j v hj => by
                  have hjl : j < xs.length * i.size := by have := (List.getElem?_eq_some_iff.1 hj).1; rw [hol.1] at this; exact this
                  rw [List.getElem?_take_of_lt hjl] at hj
                  rw [add_off, Nat.zero_add, cell_same hw', cell_of_heap hh]
                  simpa using hj)
                rw [hol.1] at this
                simpa [Builtin.firstCells] using this) (by omega) hlim
            obtain ⟨h1, a1⟩ := h.gone d
            obtain ⟨hR, hA⟩ := newRow_laid (w' := w.drew.alloc (.cells ((cur.toList.take (xs.length * i.size) ++ news).toArray ++ rest) e' (0, 0))) h1 hf (hall.mono a1.ok) (c := c) (rest := rest) (e := e') (by rw [hl3]; exact hc) (by rw [hrest, hzs, hl3]) rfl rfl rfl rfl
            refine ⟨.slice (some ⟨w.heap.size, 0, none⟩) (xs.length + ys.length) c, w.drew.alloc (.cells ((cur.toList.take (xs.length * i.size) ++ news).toArray ++ rest) e' (0, 0)), ?_, G.withV fid (.slice (some ⟨w.heap.size, 0, none⟩) (xs ++ ys).length c) i.size, hR, a1.trans hA, .leaf (.h (by simp [Gh.withV, upd_eq]) rfl)⟩
            rw [hrun]
            congr 3
            apply Array.ext'
            simp
      · exact (run_fail hk).elim
  | _ => exact (run_fail hr).elim
end Go.Den

/- Den, part N: cuts, make, conversions, the smaller and the greater. -/
namespace Go.Den
variable {P : Program} {w0 w : World} {bl : List Nat} {D D' : Nat → Prop} {m : Nat → Option Ent} {G : Gh}

theorem appendS_sim (h : RelW w0 bl D w m G) {fid : Nat} (hf : Fr D D' fid) {ts : Array TypeId} {ty : TypeId} {t t' : TypeId} (ht : ts = #[t, t']) {x y v : PV} {wr : Wr} {l o} {x' y' : Value} (hr : (appendS P fid ts[0]? ts[1]? x y).run m = some ((v, wr), l, o)) (hx : RepS w (okP w m G) G x' x) (hy : RepS w (okP w m G) G y' y) :
    ∃ v' w', (Builtin.append_ ts ty #[x', y']).run P w = .ok v' w' ∧ After w0 bl D' w m G v wr v' w' := by
  subst ht
  simp only [appendS, List.getElem?_toArray, List.getElem?_cons_zero, List.getElem?_cons_succ] at hr
  split at hr
  · rename_i e u hu hu'
    split at hr
    · rename_i n b z hs hb hz
      split at hr
      · rename_i hzn
        have hzn : z.length = n + 1 := by simpa using hzn
        split at hr
        · split at hr
          · split at hr
            · rename_i hn
              have hn : n = 0 := by simpa using hn
              subst hn
              obtain ⟨s, rfl, rfl⟩ := hy.str
              exact appendTo_sim h hf hu hu' (.inl rfl) hs hb hz hzn hr hx (ofBytes_laid _ _) (str_gives s)
            · exact (run_fail hr).elim
          · exact (run_fail hr).elim
        · rename_i e'
          obtain ⟨ys, a1, a2, a3, a4, hys, hr, _, _⟩ := run_bind hr
          obtain ⟨news, _, _, _, _, hl, hg⟩ := elemsOf_gives (P := P) h (Nat.succ_pos n) hys hy
          exact appendTo_sim h hf hu hu' (.inr ⟨e', rfl⟩) hs hb hz hzn hr hx hl hg
        · exact (run_fail hr).elim
      · exact (run_fail hr).elim
    · exact (run_fail hr).elim
  · exact (run_fail hr).elim

/-! ### cuts -/
/-- An operand that may be left out. -/
def BdOk (w : World) (ok : Nat → Prop) (G : Gh) (v' : Option Value) (v : Option (Option PV)) : Prop :=
  (v = none ∧ v' = none) ∨ ∃ x' x, v' = some x' ∧ v = some x ∧ ∀ p, x = some p → RepS w ok G x' p
theorem bdOk_map {a ok g} (hs : SlotsOk a w ok G g) (x : Option Operand) : BdOk w ok G (x.map a.eval) (x.map (evOp g)) := by
  cases x with
  | none => exact .inl ⟨rfl, rfl⟩
  | some x => exact .inr ⟨_, _, rfl, rfl, fun p hp => evOp_rep hs hp⟩
theorem bnd_run {ok} {v' : Option Value} {v : Option (Option PV)} (hv : BdOk w ok G v' v) {li dflt n lim' : Nat} (h : bnd v li dflt = some n) (hle : li ≤ lim') :
    (v' = none ∧ n = dflt) ∨ ∃ x', v' = some x' ∧ n ≤ li ∧ ∀ code, (Instr.sliceBound x' lim' code).run P w = .ok n w := by
  rcases hv with ⟨rfl, rfl⟩ | ⟨x', x, rfl, rfl, hx⟩
  · simp [bnd] at h; exact .inl ⟨rfl, h.symm⟩
  · simp only [bnd] at h
    cases x with
    | none => simp at h
    | some p =>
      cases p with
      | int k i =>
        simp only at h
        split at h
        · rename_i hi
          injection h with h
          subst h
          have := (hx _ rfl).int
          subst this
          exact .inr ⟨_, rfl, by omega, fun code => by simp [Instr.sliceBound, asIntOf, hi.1]; omega⟩
        · cases h
      | _ => simp at h
theorem bounds_run {ok} {lo' hi' mx' : Option Value} {lo hi mx : Option (Option PV)} (hlo : BdOk w ok G lo' lo) (hhi : BdOk w ok G hi' hi) (hmx : BdOk w ok G mx' mx) {n cap l h : Nat} (hb : bounds n lo hi mx = some (l, h)) (hc : n ≤ cap) (isS : Bool) :
    l ≤ h ∧ h ≤ n ∧ ∃ m', h ≤ m' ∧ m' ≤ cap ∧ (Instr.sliceBounds isS n cap lo' hi' mx').run P w = .ok (l, h, m') w := by
  unfold bounds at hb
  split at hb
  · cases hb
  · rename_i hsn
    cases h1 : bnd mx n n with
    | none => simp [h1] at hb
    | some m =>
      cases h2 : bnd hi m n with
      | none => simp [h1, h2] at hb
      | some hh =>
        cases h3 : bnd lo hh 0 with
        | none => simp [h1, h2, h3] at hb
        | some ll =>
          simp [h1, h2, h3] at hb
          obtain ⟨rfl, rfl⟩ := hb
          have r1 := bnd_run (P := P) hmx h1 hc
          rcases r1 with ⟨rfl, rfl⟩ | ⟨mv, rfl, hmle, hmrun⟩
          · -- no max
            rcases hmx with ⟨rfl, _⟩ | ⟨_, _, h0, _⟩
            · rcases bnd_run (P := P) hhi h2 hc with ⟨rfl, rfl⟩ | ⟨hv, rfl, hhle, hhrun⟩
              · rcases bnd_run (P := P) hlo h3 (Nat.le_refl _) with ⟨rfl, rfl⟩ | ⟨lv, rfl, hlle, hlrun⟩
                · exact ⟨Nat.zero_le _, Nat.le_refl _, cap, hc, Nat.le_refl _, by simp [Instr.sliceBounds]⟩
                · exact ⟨hlle, Nat.le_refl _, cap, hc, Nat.le_refl _, by simp [Instr.sliceBounds, hlrun]⟩
              · rcases bnd_run (P := P) hlo h3 (Nat.le_refl _) with ⟨rfl, rfl⟩ | ⟨lv, rfl, hlle, hlrun⟩
                · exact ⟨Nat.zero_le _, hhle, cap, by omega, Nat.le_refl _, by simp [Instr.sliceBounds, hhrun]⟩
                · exact ⟨hlle, hhle, cap, by omega, Nat.le_refl _, by simp [Instr.sliceBounds, hhrun, hlrun]⟩
            · cases h0
          · rcases bnd_run (P := P) hhi h2 (Nat.le_refl _) with ⟨rfl, rfl⟩ | ⟨hv, rfl, hhle, hhrun⟩
            · exfalso
              rcases hmx with ⟨_, h0⟩ | ⟨_, _, _, rfl, _⟩
              · cases h0
              · rcases hhi with ⟨rfl, _⟩ | ⟨_, _, h0, _⟩
                · simp at hsn
                · cases h0
            · rcases bnd_run (P := P) hlo h3 (Nat.le_refl _) with ⟨rfl, rfl⟩ | ⟨lv, rfl, hlle, hlrun⟩
              · exact ⟨Nat.zero_le _, by omega, m, hhle, by omega, by simp [Instr.sliceBounds, hmrun, hhrun]⟩
              · exact ⟨hlle, by omega, m, hhle, by omega, by simp [Instr.sliceBounds, hmrun, hhrun, hlrun]⟩

/-- A part of what is read. -/
theorem Rep.cut {ok} {a : Option Addr} {n c sz l h m' : Nat} {xs : List (List PV)} {v0 : Value} (hr : Rep w ok v0 (.sl sz xs)) (hv0 : v0 = .slice a xs.length c) (hl : l ≤ h) (hh : h ≤ xs.length) (hm : h ≤ m') (hn : n = h - l) :
    Rep w ok (.slice (if m' = l then a else a.map (·.add (l * sz))) n (m' - l)) (.sl sz ((xs.take h).drop l)) := by
  subst hn
  cases hr with
  | sl a' c' _ _ vs hc hz hp hcell hv =>
    injection hv0 with ha' _ hc'
    subst hc'
    subst ha'
    have hlen : ((xs.take h).drop l).length = h - l := by simp; omega
    have key : ∀ (i : Nat) x, ((xs.take h).drop l)[i]? = some x → xs[l + i]? = some x ∧ l + i < h := fun i x hx => by
      rw [List.getElem?_drop] at hx
      have hlt : l + i < h := by have := (List.getElem?_eq_some_iff.1 hx).1; simp at this; omega
      rw [List.getElem?_take_of_lt hlt] at hx
      exact ⟨hx, hlt⟩
    have := Rep.sl (w := w) (ok := ok) (if m' = l then a' else a'.map (·.add (l * sz))) (m' - l) sz ((xs.take h).drop l) (fun i j => vs (l + i) j) (by rw [hlen]; omega) (fun x hx => hz x (List.mem_of_mem_take (List.mem_of_mem_drop hx))) (fun x hx => hp x (List.mem_of_mem_take (List.mem_of_mem_drop hx)))
      (fun i x j p hx hpp => by
        obtain ⟨hx', hlt⟩ := key i x hx
        obtain ⟨g, o, rfl, hok, hcc⟩ := hcell (l + i) x j p hx' hpp
        refine ⟨g, o + l * sz, ?_, hok, ?_⟩
        · rw [if_neg (by omega)]
          simp [add_off]
        · rw [← hcc]
          congr 2
          rw [Nat.add_mul]
          omega)
      (fun i x j p hx hpp => hv (l + i) x j p (key i x hx).1 hpp)
    rw [hlen] at this
    exact this
theorem sliceS_sim (h : RelW w0 bl D w m G) (hD : ∀ d, D d → D' d) {t : TypeId} {a v : PV} {lo hi mx : Option (Option PV)} {lo' hi' mx' : Option Value} {wr : Wr} {l o} {a' : Value} (hr : (sliceS P t a lo hi mx).run m = some ((v, wr), l, o)) (ha : RepS w (okP w m G) G a' a)
    (hlo : BdOk w (okP w m G) G lo' lo) (hhi : BdOk w (okP w m G) G hi' hi) (hmx : BdOk w (okP w m G) G mx' mx) :
    ∃ v' w', (Instr.sliceAt t a' lo' hi' mx').run P w = .ok v' w' ∧ After w0 bl D' w m G v wr v' w' := by
  unfold sliceS at hr
  split at hr
  · rename_i hu
    split at hr
    · split at hr
      · rename_i l1 h1 hb
        have h1' := (run_ret hr).1
        injection h1' with h1' h2
        subst h1'; subst h2
        obtain ⟨s, rfl, rfl⟩ := ha.str
        have hls : s.data.toList.length = s.size := by rw [Array.length_toList]; rfl
        rw [hls] at hb
        rcases hmx with ⟨_, rfl⟩ | ⟨_, _, _, h0, _⟩
        · obtain ⟨b1, b2, m', b3, _, b4⟩ := bounds_run (P := P) hlo hhi (mx := none) (.inl ⟨rfl, rfl⟩) hb (Nat.le_refl _) false
          refine ⟨.string (s.extract l1 h1), w, by simp [Instr.sliceAt, Instr.slice, run_underlying hu, b4], After.quiet h hD ?_⟩
          have := Rep.str (w := w) (ok := okP w m G) (s.extract l1 h1)
          rw [Lib.extract_data, ← List.drop_take] at this
          exact .leaf (.pl this rfl)
        · cases h0
      · exact (run_fail hr).elim
    · exact (run_fail hr).elim
  · rename_i e hu
    have krun : ∀ (ad : Option Addr) (n c l h m' sz : Nat), tSize P e = some sz → (Instr.sliceBounds true n c lo' hi' mx').run P w = .ok (l, h, m') w →
        (Instr.sliceAt t (.slice ad n c) lo' hi' mx').run P w = .ok (.slice (if m' = l then ad else ad.map (·.add (l * sz))) (h - l) (m' - l)) w := fun ad n c l h m' sz hs hb => by
      simp [Instr.sliceAt, Instr.slice, run_underlying hu, hb, run_sizeOf' hs]
    split at hr
    · rename_i sz hs
      split at hr
      · rename_i lh hb
        obtain ⟨l1, h1⟩ := lh
        have h1' := (run_ret hr).1
        injection h1' with h1' h2
        subst h1'; subst h2
        have := ha.nils; subst this
        obtain ⟨b1, b2, m', b3, b5, b4⟩ := bounds_run (P := P) hlo hhi hmx hb (Nat.le_refl 0) true
        have hh0 : h1 = 0 := by omega
        have hl0 : l1 = 0 := by omega
        subst hh0; subst hl0
        have hm0 : m' = 0 := by omega
        subst hm0
        exact ⟨_, w, krun none 0 0 0 0 0 sz hs b4, After.quiet h hD (.leaf (.pl .nils rfl))⟩
      · exact (run_fail hr).elim
    · rename_i sz' sz xs hs
      split at hr
      · rename_i l1 h1 hb
        split at hr
        · rename_i hsz
          have hsz : sz = sz' := by simpa using hsz
          subst hsz
          have h1' := (run_ret hr).1
          injection h1' with h1' h2
          subst h1'; subst h2
          have hrep := ha.rep rfl
          cases hrep with
          | sl ad c _ _ vs hc hz hp hcell hv =>
            obtain ⟨b1, b2, m', b3, b5, b4⟩ := bounds_run (P := P) hlo hhi hmx hb hc true
            exact ⟨_, w, krun ad _ c _ _ _ sz hs b4, After.quiet h hD (.leaf (.pl ((Rep.sl ad c sz xs vs hc hz hp hcell hv).cut rfl b1 b2 b3 rfl) rfl))⟩
        · exact (run_fail hr).elim
      · exact (run_fail hr).elim
    · rename_i sz' d hs
      obtain ⟨e1, l', hm, hk⟩ := run_rdc hr
      obtain ⟨own, c⟩ := e1
      cases c with
      | box => exact (run_fail hk).elim
      | row e' sz xs =>
        simp only at hk
        split at hk
        · rename_i l1 h1 hb
          split at hk
          · rename_i hsz
            have hsz : sz = sz' := by simpa using hsz
            subst hsz
            have h1' := (run_ret hk).1
            injection h1' with h1' h2
            subst h1'; subst h2
            obtain ⟨hR, hA⟩ := h.fz d
            have h3 : putF m [(d, .fz)] d = some ⟨false, .row e' sz xs⟩ := by simp only [putF, hm, upd_eq]
            obtain ⟨v', hv', hrep⟩ := (hR.ent d _ h3).froRow
            have := ha.h.1
            rw [hv'] at this; injection this with this; subst this
            cases hrep with
            | sl ad c _ _ vs hc hz hp hcell hv =>
              obtain ⟨b1, b2, m', b3, b5, b4⟩ := bounds_run (P := P) hlo hhi hmx hb hc true
              exact ⟨_, w, krun ad _ c _ _ _ sz hs b4, G, hR.widen hD, hA, .leaf (.pl ((Rep.sl ad c sz xs vs hc hz hp hcell hv).cut rfl b1 b2 b3 rfl) rfl)⟩
          · exact (run_fail hk).elim
        · exact (run_fail hk).elim
    · exact (run_fail hr).elim
  · exact (run_fail hr).elim
theorem viewS_sim (h : RelW w0 bl D w m G) (hD : ∀ d, D d → D' d) {t : TypeId} {a v : PV} {lo hi mx : Option (Option PV)} {lo' hi' mx' : Option Value} {wr : Wr} {l o} {a' : Value} (hr : (viewS P t a lo hi mx).run m = some ((v, wr), l, o)) (ha : RepS w (okP w m G) G a' a)
    (hlo : BdOk w (okP w m G) G lo' lo) (hhi : BdOk w (okP w m G) G hi' hi) (hmx : BdOk w (okP w m G) G mx' mx) :
    ∃ v' w', (Instr.sliceAt t a' lo' hi' mx').run P w = .ok v' w' ∧ After w0 bl D' w m G v wr v' w' := by
  unfold viewS at hr
  split at hr
  · rename_i e hu
    have krun : ∀ (ad : Option Addr) (n c l h m' sz : Nat), tSize P e = some sz → (Instr.sliceBounds true n c lo' hi' mx').run P w = .ok (l, h, m') w →
        (Instr.sliceAt t (.slice ad n c) lo' hi' mx').run P w = .ok (.slice (if m' = l then ad else ad.map (·.add (l * sz))) (h - l) (m' - l)) w := fun ad n c l h m' sz hs hb => by
      simp [Instr.sliceAt, Instr.slice, run_underlying hu, hb, run_sizeOf' hs]
    split at hr
    · rename_i sz' d hs
      obtain ⟨e1, l', hm, hk⟩ := run_rdc hr
      obtain ⟨own, c⟩ := e1
      cases c with
      | box => exact (run_fail hk).elim
      | row e' sz xs =>
        simp only at hk
        split at hk
        · rename_i l1 h1 hb
          split at hk
          · rename_i hsz
            simp only [Bool.and_eq_true, beq_iff_eq] at hsz
            obtain ⟨hsz, rfl⟩ := hsz
            have h1' := (run_ret hk).1
            injection h1' with h1' h2
            subst h1'; subst h2
            obtain ⟨hR, hA⟩ := h.fz d
            have h3 : putF m [(d, .fz)] d = some ⟨false, .row e' sz xs⟩ := by simp only [putF, hm, upd_eq]
            obtain ⟨v', hv', hrep⟩ := (hR.ent d _ h3).froRow
            have hV := ha.h.1
            have := hV
            rw [hv'] at this; injection this with this; subst this
            cases hrep with
            | sl ad c _ _ vs hc hz hp hcell hv =>
              obtain ⟨b1, b2, m', b3, b5, b4⟩ := bounds_run (P := P) hlo hhi hmx hb hc true
              refine ⟨_, w, krun ad _ c _ _ _ sz' hs b4, After.quiet h hD (.leaf ?_)⟩
              have hadd : (if m' = 0 then ad else ad.map (·.add (0 * sz'))) = ad := by
                split
                · rfl
                · rw [Nat.zero_mul]
                  cases ad with
                  | none => rfl
                  | some a => simp [Addr.add]
              rw [hadd, Nat.sub_zero, Nat.sub_zero]
              exact .vw h1 m' hV b2 b3
          · exact (run_fail hk).elim
        · exact (run_fail hk).elim
    · exact (run_fail hr).elim
  · exact (run_fail hr).elim
end Go.Den

/- Den, part O: make, conversions, the smaller and the greater. -/
namespace Go.Den
variable {P : Program} {w0 w : World} {bl : List Nat} {D D' : Nat → Prop} {m : Nat → Option Ent} {G : Gh}

theorem minmax_sim (h : RelW w0 bl D w m G) (hD : ∀ d, D d → D' d) {mx : Bool} {ps : List PV} {v : PV} {wr : Wr} {l o} {args : Array Value} {ts : Array TypeId} {ty : TypeId} (hr : (minmaxS mx ps).run m = some ((v, wr), l, o))
    (hl : args.size = ps.length) (ha : ∀ (j : Nat) u p, args[j]? = some u → ps[j]? = some p → RepS w (okP w m G) G u p) :
    ∃ v', (match mx with | true => Builtin.max_ ts ty args | false => Builtin.min_ ts ty args).run P w = .ok v' w ∧ After w0 bl D' w m G v wr v' w := by
  match ps, hr with
  | [.int k a, .int k' b], hr =>
    simp only [minmaxS] at hr
    split at hr
    · rename_i hk
      subst hk
      have h1 := (run_ret hr).1
      injection h1 with h1 h2
      subst h1; subst h2
      have hargs : args = #[.int k a, .int k b] := by
        obtain ⟨al⟩ := args
        match al, hl, ha with
        | [u0, u1], _, ha =>
          have e0 := (ha 0 u0 (.int k a) rfl rfl).int
          have e1 := (ha 1 u1 (.int k b) rfl rfl).int
          rw [e0, e1]
      subst hargs
      cases mx with
      | true => exact ⟨.int k (if b > a then b else a), by simp [Builtin.max_, Builtin.max2], After.quiet h hD (.leaf (.pl (.int ..) rfl))⟩
      | false => exact ⟨.int k (if b < a then b else a), by simp [Builtin.min_, Builtin.min2], After.quiet h hD (.leaf (.pl (.int ..) rfl))⟩
    · exact (run_fail hr).elim

theorem makeS_sim (h : RelW w0 bl D w m G) {fid : Nat} (hf : Fr D D' fid) {t : TypeId} {a b v : PV} {wr : Wr} {l o} {a' b' : Value} (hr : (makeS P fid t a b).run m = some ((v, wr), l, o)) (ha : RepS w (okP w m G) G a' a) (hb : RepS w (okP w m G) G b' b) :
    ∃ v' w', (Instr.makeSlice t a' b').run P w = .ok v' w' ∧ After w0 bl D' w m G v wr v' w' := by
  unfold makeS at hr
  split at hr
  · rename_i e hu
    split at hr
    · rename_i z n by' hz hs hby
      split at hr
      · rename_i hzn
        have hzn : z.length = n + 1 := by simpa using hzn
        split at hr
        · rename_i kx x kc c
          split at hr
          · rename_i hc
            obtain ⟨hx0, hxc, hlim⟩ := hc
            have h1 := (run_ret hr).1
            injection h1 with h1 h2
            subst h1; subst h2
            have := ha.int; subst this
            have := hb.int; subst this
            obtain ⟨i, zv, hi, hisz, hib, hiz, hzc⟩ := tInfo hs hby hz
            obtain ⟨c1, c2, c3⟩ := constsPV_rep hzc w (okP w m G)
            have hzs : zv.cells.size = n + 1 := by rw [← hzn]; simpa using c1
            have hlim' : c * (by' : Int) + c ≤ 70368744177664 := by
              have : c * ((by' : Int) + 1) ≤ 70368744177664 := hlim
              rw [Int.mul_add, Int.mul_one] at this
              exact this
            have hcb : 0 ≤ c * (by' : Int) := Int.mul_nonneg (by omega) (by omega)
            have wx : IntKind.i64.wrap x = x := IntWalk.i64_in _ (by omega)
            have wc : IntKind.i64.wrap c = c := IntWalk.i64_in _ (by omega)
            have k1 : ¬ (c < 0) := by omega
            have k2 : ¬ (281474976710656 < (by' : Int) * c) := by rw [Int.mul_comm]; omega
            have k3 : ¬ (x < 0) := by omega
            have k4 : ¬ (c < x) := by omega
            obtain ⟨hR, hA⟩ := h.newRow hf.zero.1 hf.sub hf.zero.2 (Array.map (fun i => zv.cells[i % zv.cells.size]!) (Array.range (c.toNat * (n + 1)))) e (n + 1) c.toNat (List.replicate x.toNat z) (by simp; omega) (by simp) (fun y hy => by rw [List.eq_of_mem_replicate hy]; exact hzn) (fun y hy => by rw [List.eq_of_mem_replicate hy]; exact c2) (fun i y j p hy hp => by
              have hi := (List.getElem?_eq_some_iff.1 hy).1
              simp at hi
              rw [List.getElem?_replicate_of_lt (by omega)] at hy
              injection hy with hy
              subst hy
              have hj : j < n + 1 := by rw [← hzn]; exact (List.getElem?_eq_some_iff.1 hp).1
              have hij : i * (n + 1) + j < c.toNat * (n + 1) := mul_lt (by omega) hj
              obtain ⟨u', hu', hrep⟩ := c3 j p hp
              have hm : (i * (n + 1) + j) % (n + 1) = j := by rw [Nat.mul_comm, Nat.mul_add_mod]; exact Nat.mod_eq_of_lt hj
              have hju : zv.cells[j]! = u' := by
                have : zv.cells[j]? = some u' := by simpa using hu'
                rw [getElem!_def, this]
              exact ⟨u', by simp only [Array.getElem?_map, Array.getElem?_range, if_pos hij, Option.map_some, hzs, hm, hju], hrep⟩)
            have hlr : (List.replicate x.toNat z).length = x.toNat := by simp
            refine ⟨.slice (some ⟨w.heap.size, 0, none⟩) x.toNat c.toNat, _, ?_, _, hR, hA, .leaf (.h (by simp [Gh.withV, upd_eq]) rfl)⟩
            by_cases hc0 : c.toNat * (n + 1) = 0
            · have hr0 : Array.range 0 = #[] := rfl
              simp [Instr.makeSlice, run_underlying hu, asInt, asIntOf, typeInfo, hi, hib, wx, wc, k1, k2, k3, k4, Go.sizeOf, hisz, hc0, newRow, newObj, Sem.run, hr0]
            · simp [Instr.makeSlice, run_underlying hu, asInt, asIntOf, typeInfo, hi, hib, wx, wc, k1, k2, k3, k4, Go.sizeOf, hisz, hc0, zeroValue, hiz, newRow, newObj, Sem.run]
          · exact (run_fail hr).elim
        · exact (run_fail hr).elim
      · exact (run_fail hr).elim
    · exact (run_fail hr).elim
  · exact (run_fail hr).elim

/-! ### conversions -/
theorem toBytes_spec : ∀ {xs : List (List PV)} {l : List UInt8}, toBytes xs = some l → ∃ ns : List Int, xs = ns.map (fun n => [.int .u8 n]) ∧ l = ns.map fun n => UInt8.ofNat n.toNat
  | [], l, h => by simp [toBytes] at h; subst h; exact ⟨[], rfl, rfl⟩
  | x :: r, l, h => by
    unfold toBytes at h
    split at h
    · rename_i h0; cases h0
    · rename_i n r' h0
      injection h0 with h1 h2
      subst h1; subst h2
      cases hr : toBytes r with
      | none => simp [hr] at h
      | some l' =>
        simp [hr] at h
        subst h
        obtain ⟨ns, h1, h2⟩ := toBytes_spec hr
        exact ⟨n :: ns, by simp [h1], by simp [h2]⟩
    · cases h
theorem freeze_heap {w : World} {g o : Nat} {cur : Array Value} {t : TypeId} {lo hi : Nat} (h : w.heap[g]? = some (.cells cur t (lo, hi))) :
    (w.freeze ⟨g, o, none⟩ 1).heap[g]? = some (.cells cur t (if lo == hi then (o, o + 1) else (min lo o, max hi (o + 1)))) ∧ (∀ k, k ≠ g → (w.freeze ⟨g, o, none⟩ 1).heap[k]? = w.heap[k]?) ∧ (w.freeze ⟨g, o, none⟩ 1).heap.size = w.heap.size ∧
    (w.freeze ⟨g, o, none⟩ 1).os = w.os ∧ (w.freeze ⟨g, o, none⟩ 1).tape = w.tape ∧ (w.freeze ⟨g, o, none⟩ 1).output = w.output := by
  refine ⟨by simp [World.freeze, Array.getElem?_modify, h], fun k hk => by simp [World.freeze, Array.getElem?_modify, hk.symm], by simp [World.freeze], rfl, rfl, rfl⟩
/-- A row whose block's marks have changed beyond its cells. -/
theorem RelW.rowMark {d e sz xs g n c cur fz fz'} (h : RelW w0 bl D w m G) (hd : m d = some ⟨true, .row e sz xs⟩) (hv : G.V d = some (.slice (some ⟨g, 0, none⟩) n c)) (hh : w.heap[g]? = some (.cells cur e fz)) {w' : World}
    (hh' : w'.heap[g]? = some (.cells cur e fz')) (hfz' : noFz fz' cur.size) (hsame : ∀ k, k ≠ g → w'.heap[k]? = w.heap[k]?) (hsize : w'.heap.size = w.heap.size) (hos : w'.os = w.os) (htape : w'.tape = w.tape) (hout : w'.output = w.output) :
    RelW w0 bl D w' (upd m d (some ⟨true, .row e sz xs⟩)) G ∧ Adv w (okP w m G) G w' (okP w' (upd m d (some ⟨true, .row e sz xs⟩)) G) G := by
  have hown : ownB G d ⟨true, .row e sz xs⟩ = some g := by simp [ownB, hv, Value.ownBlock]
  refine h.step (fun x => x = d) (fun _ _ => ⟨rfl, rfl, rfl⟩) (fun _ h => h) (fun x hx hv => absurd (h.dom x hv) hx) hos htape hout (by rw [hsize]; exact Nat.le_refl _) rfl (fun k hk => hsame k (fun he => hk.2 d _ hd (he ▸ hown))) (fun x hx => upd_ne _ _ hx)
    (fun x e1 hx he k ho => hsame k (fun hkb => hx (h.sep x d e1 _ g he hd (hkb ▸ ho) hown)))
    (fun x e1 k hu he ho => ?_) (fun _ _ _ _ _ hu hu' _ _ _ _ => hu.trans hu'.symm) (fun ha x e1 hu he => ?_)
  · subst hu
    simp only [upd_eq, Option.some.injEq] at he
    subst he
    rw [hown] at ho
    simp only [Option.some.injEq] at ho
    subst ho
    exact ⟨fun hk => hk.2 x _ hd hown, fun x1 e1 hx1 h1 ho1 => hx1 (h.sep x1 x e1 _ _ h1 hd ho1 hown), h.new x _ _ hd hown⟩
  · subst hu
    simp only [upd_eq, Option.some.injEq] at he
    subst he
    obtain ⟨v1, hV1, hzd, hrow⟩ := h.ent x _ hd
    rw [hv] at hV1; injection hV1 with hV1; subst hV1
    rcases hrow with ⟨h0, _⟩ | ⟨g', c1, cur1, fz1, hv1, hh1, hc1, hcur, hfz1, hlen1, hpl, hcell⟩
    · cases h0
    · injection hv1 with hg hn hc'
      injection hg with hg
      injection hg with hg
      subst hg; subst hn; subst hc'
      rw [hh] at hh1
      injection hh1 with hh1
      injection hh1 with hh1
      subst hh1
      exact ⟨_, hv, hzd, .inr ⟨g, c, cur, fz', rfl, hh', hc1, hcur, hfz', hlen1, hpl, fun i x j p hx hp => let ⟨u, hu, hr⟩ := hcell i x j p hx hp; ⟨u, hu, hr.mono ha.ok⟩⟩⟩

theorem convS_sim (h : RelW w0 bl D w m G) {fid : Nat} (hf : Fr D D' fid) {s t : TypeId} {a v : PV} {wr : Wr} {l o} {a' : Value} (hr : (convS P fid s t a).run m = some ((v, wr), l, o)) (ha : RepS w (okP w m G) G a' a) :
    ∃ v' w', (Go.convert s t a').run P w = .ok v' w' ∧ After w0 bl D' w m G v wr v' w' := by
  unfold convS at hr
  split at hr
  · rename_i ds k hs ht
    split at hr
    · have h1 := (run_ret hr).1
      injection h1 with h1 h2
      subst h1; subst h2
      have := ha.int; subst this
      exact ⟨_, w, by simp [Go.convert, run_underlying hs, run_underlying ht, Conv.intToInt], After.quiet h hf.sub (.leaf (.pl (.int ..) rfl))⟩
    · exact (run_fail hr).elim
  · rename_i hs ht
    split at hr
    · have h1 := (run_ret hr).1
      injection h1 with h1 h2
      subst h1; subst h2
      obtain ⟨s', rfl, rfl⟩ := ha.str
      exact ⟨_, w, by simp [Go.convert, run_underlying hs, run_underlying ht], After.quiet h hf.sub (.leaf (.pl (.str _) rfl))⟩
    · exact (run_fail hr).elim
  · rename_i e hs ht
    split at hr
    · rename_i hu
      split at hr
      · rename_i hsz
        have h1 := (run_ret hr).1
        injection h1 with h1 h2
        subst h1; subst h2
        obtain ⟨s', rfl, rfl⟩ := ha.str
        have hls : s'.data.toList.length = s'.size := by rw [Array.length_toList]; rfl
        have hrun := Lib.run_convert_string_bytes (P := P) w s t e s' hs ht hu
        have hlaid := ofBytes_laid (w := w) (okP w m G) s'.data.toList
        have hol : (ofBytes s'.data.toList).length = s'.size := by rw [ofBytes, List.length_map]; exact hls
        have hge := grownCap_ge w s'.size 0 e
        have hcs : (Lib.bytesCells w e s').size = grownCap w s'.size 0 e := by
          simp [Lib.bytesCells]
          omega
        obtain ⟨hR, hA⟩ := h.newRowG (w' := Lib.bytesWorld w e s') hf.zero.1 hf.sub hf.zero.2 (Lib.bytesCells w e s') e 1 (grownCap w s'.size 0 e) (ofBytes s'.data.toList) (Lib.bytesWorld_at_new w e s')
          (fun k hk => Lib.bytesWorld_at_old w e s' k hk) (by rw [Lib.bytesWorld_size]; exact Nat.le_succ _) rfl rfl rfl (.inr (Nat.le_refl _))
          (by rw [hol]; exact hge) (by rw [hcs]; omega) hlaid.2.1 hlaid.2.2.1 (fun i x j p hx hp => by
            obtain ⟨u, hu, hr⟩ := hlaid.2.2.2 i x j p hx hp
            refine ⟨u, ?_, hr⟩
            have := (List.getElem?_eq_some_iff.1 hu).1
            rw [Lib.bytesCells, Array.getElem?_append_left (by simpa using this)]
            simpa using hu)
        exact ⟨_, _, hrun, _, hR, hA, .leaf (.h (by simp [Gh.withV, upd_eq, hol]) rfl)⟩
      · exact (run_fail hr).elim
    · exact (run_fail hr).elim
  · rename_i es e' hs ht
    split at hr
    · rename_i d hu
      split at hr
      · rename_i hst
        have hst : s = t := by simpa using hst
        subst hst
        obtain ⟨c, l', hm, hk⟩ := run_own hr
        cases c with
        | box => exact (run_fail hk).elim
        | row e1 sz xs =>
          simp only at hk
          split at hk
          · exact (run_fail hk).elim
          · rename_i hne
            have h1 := (run_ret hk).1
            injection h1 with h1 h2
            subst h1; subst h2
            have hV := ha.h.1
            obtain ⟨v1, hV1, hzd, hrow⟩ := h.ent d _ hm
            rw [hV] at hV1; injection hV1 with hV1; subst hV1
            rcases hrow with ⟨_, rfl⟩ | ⟨g, cap, cur, fz, rfl, hh, hcap, hcur, hfz, hlen, hpl, hcell⟩
            · simp at hne
            · obtain ⟨lo, hi⟩ := fz
              obtain ⟨f1, f2, f3, f4, f5, f6⟩ := freeze_heap (o := cur.size) hh
              have hz' : noFz (if lo == hi then (cur.size, cur.size + 1) else (min lo cur.size, max hi (cur.size + 1))) cur.size := by
                refine .inr ?_
                by_cases hlh : lo = hi
                · subst hlh
                  simp
                · have hb : (lo == hi) = false := by simpa using hlh
                  rw [hb]
                  rcases hfz with h0 | h0
                  · exact absurd h0 hlh
                  · simp only at h0
                    simp only [Bool.false_eq_true, if_false]
                    omega
              obtain ⟨hR, hA⟩ := h.rowMark hm hV hh f1 hz' f2 f3 f4 f5 f6
              have hshape : w.shape? g = some (e1, cur.size) := by simp [World.shape?, hh]
              refine ⟨.slice (some ⟨g, 0, none⟩) xs.length cap, w.freeze ⟨g, cur.size, none⟩ 1, ?_, G, hR.widen hf.sub, hA, .leaf (.h hV rfl)⟩
              rw [ht] at hs
              injection hs with hs
              injection hs with hs
              subst hs
              simp [Go.convert, run_underlying ht, run_underlying hu, markStringish, hshape]
      · exact (run_fail hr).elim
    · exact (run_fail hr).elim
  · rename_i e hs ht
    split at hr
    · rename_i hu
      obtain ⟨xs, a1, a2, a3, a4, hxs, hr, _, _⟩ := run_bind hr
      obtain ⟨hx, rfl⟩ := run_retO hr
      cases hb : toBytes xs with
      | none => simp [hb] at hx
      | some lb =>
        simp [hb] at hx
        subst hx
        obtain ⟨ns, rfl, rfl⟩ := toBytes_spec hb
        obtain ⟨news, ad, c, rfl, hnil, hl, hg⟩ := elemsOf_gives (P := P) h Nat.one_pos hxs ha
        have hnews : news = ns.map fun n => .int .u8 n := by
          apply List.ext_getElem?
          intro i
          by_cases hi : i < ns.length
          · obtain ⟨u, hu, hr⟩ := hl.2.2.2 i [.int .u8 ns[i]] 0 (.int .u8 ns[i]) (by simp [hi]) rfl
            rw [Nat.mul_one, Nat.add_zero] at hu
            cases hr
            rw [hu]
            simp [hi]
          · have h1 := hl.1
            simp at h1
            rw [List.getElem?_eq_none (by omega), List.getElem?_eq_none (by simp; omega)]
        subst hnews
        simp only [List.length_map] at hg hnil ⊢
        have hst : ∃ st : ByteArray, (Conv.bytesToString (.slice ad ns.length c)).run P w = .ok (.string st) w ∧ st.data.toList = ns.map fun n => UInt8.ofNat n.toNat := by
          obtain ⟨g1, g2⟩ := hg
          have g2 := g2 w rfl
          cases ad with
          | none =>
            have : ns = [] := by simpa using hnil rfl
            subst this
            exact ⟨.empty, by simp [Conv.bytesToString], rfl⟩
          | some ad =>
            refine ⟨_, run_bytesToString w ad ns.length c ns (by simpa [Builtin.firstCells] using g2), ?_⟩
            rw [foldl_push_bytes]
            simp
        obtain ⟨st, hst, hsl⟩ := hst
        refine ⟨_, w, (run_convert_bytes_string w s t e ad _ c hs hu ht).trans hst, After.quiet h hf.sub ?_⟩
        rw [← hsl]
        exact .leaf (.pl (.str _) rfl)
    · exact (run_fail hr).elim
  · exact (run_fail hr).elim
end Go.Den

/- Den, part P: what a call hands back, and how the caller takes it in. -/
namespace Go.Den
variable {P : Program}

/-! ### what is handed back -/
inductive RXL (w : World) (ok : Nat → Prop) : Value → PV → List Nat → Prop
  | pl {v p} (h : Rep w ok v p) (hp : plainLeaf p = true) : RXL w ok v p []
  | nil (e : TypeId) (sz : Nat) : RXL w ok (.slice none 0 0) (.nr e sz []) []
  | nr {g c e sz xs} (h : RowAt w ok (.slice (some ⟨g, 0, none⟩) xs.length c) e sz xs) : RXL w ok (.slice (some ⟨g, 0, none⟩) xs.length c) (.nr e sz xs) [g]
inductive RXs (w : World) (ok : Nat → Prop) : List Value → List PV → List Nat → Prop
  | nil : RXs w ok [] [] []
  | cons {v p b vs ps bs} (h : RXL w ok v p b) (r : RXs w ok vs ps bs) : RXs w ok (v :: vs) (p :: ps) (b ++ bs)
inductive RXV (w : World) (ok : Nat → Prop) : Value → PV → List Nat → Prop
  | leaf {v p b} (h : RXL w ok v p b) : RXV w ok v p b
  | agg {cells : Array Value} {cs bs} (h : RXs w ok cells.toList cs bs) : RXV w ok (.agg cells) (.agg cs) bs
  | fn (f : FuncId) (caps : Array Value) (cs : List PV) (hl : caps.size = cs.length) (hv : ∀ (j : Nat) v p, caps[j]? = some v → cs[j]? = some p → Rep w ok v p ∧ plainLeaf p = true) : RXV w ok (.func (.func f) #[] caps) (.fn f cs) []
  | nb {b cur t fz cs bs} (hh : w.heap[b]? = some (.cells cur t fz)) (hz : noFz fz cur.size) (h : RXs w ok cur.toList cs bs) : RXV w ok (.pointer (some ⟨b, 0, none⟩)) (.nb cs) (b :: bs)
inductive RXVs (w : World) (ok : Nat → Prop) : List Value → List PV → List Nat → Prop
  | nil : RXVs w ok [] [] []
  | cons {v p b vs ps bs} (h : RXV w ok v p b) (r : RXVs w ok vs ps bs) : RXVs w ok (v :: vs) (p :: ps) (b ++ bs)
inductive RXR (w : World) (ok : Nat → Prop) : Value → PV → List Nat → Prop
  | one {v p b} (h : RXV w ok v p b) : RXR w ok v p b
  | tup {vs : Array Value} {ps bs} (h : RXVs w ok vs.toList ps bs) : RXR w ok (.tuple vs) (.tup ps) bs
inductive LX (w : World) (ok : Nat → Prop) : List Nat → List (List PV) → List Nat → Prop
  | nil : LX w ok [] [] []
  | cons {b cur t fz cs bl lent b1 bs} (hh : w.heap[b]? = some (.cells cur t fz)) (hz : noFz fz cur.size) (h : RXs w ok cur.toList cs b1) (r : LX w ok bl lent bs) : LX w ok (b :: bl) (cs :: lent) (b1 ++ bs)

/-! ### taken in -/
structure NE where
  id : Nat
  v : Value
  c : Cont
def NE.blk (x : NE) : Option Nat :=
  match x.c with
  | .row .. => x.v.ownBlock
  | .box _ => match x.v with | .pointer (some a) => some a.block | _ => none
def HoldsN (G : Gh) (N : List NE) : Prop := ∀ x ∈ N, match x.c with
  | .row _ sz _ => G.V x.id = some x.v ∧ G.Z x.id = sz
  | .box _ => ∃ b, x.v = .pointer (some ⟨b, 0, none⟩) ∧ G.B x.id = some b
/-- What is taken in: these ids from j on, these blocks. -/
structure Taken (fid j : Nat) (wr : Wr) (j' : Nat) (bs : List Nat) (N : List NE) : Prop where
  wr : wr = N.map fun x => (x.id, .set x.c)
  j' : j' = j + N.length
  ids : N.map (·.id) = (List.range' (fid + j) N.length)
  blks : N.filterMap NE.blk = bs
  shape : ∀ x ∈ N, ∀ cs, x.c = .box cs → ∃ b, x.v = .pointer (some ⟨b, 0, none⟩)
theorem Taken.nil (fid j : Nat) : Taken fid j [] j [] [] := ⟨rfl, rfl, rfl, rfl, by simp⟩
theorem Taken.append {fid j wr j1 bs N wr' j2 bs' N'} (h : Taken fid j wr j1 bs N) (k : Taken fid j1 wr' j2 bs' N') : Taken fid j (wr ++ wr') j2 (bs ++ bs') (N ++ N') := by
  refine ⟨by rw [h.wr, k.wr, List.map_append], by rw [k.j', h.j', List.length_append]; omega, ?_, by rw [List.filterMap_append, h.blks, k.blks], fun x hx cs hc => ?_⟩
  case refine_2 => exact (List.mem_append.1 hx).elim (fun hx => h.shape x hx cs hc) (fun hx => k.shape x hx cs hc)
  rw [List.map_append, h.ids, k.ids, List.length_append, h.j', ← Nat.add_assoc, List.range'_append_1]

def Fits (w : World) (ok : Nat → Prop) (N : List NE) : Prop := ∀ G, HoldsN G N → ∀ x ∈ N, EntOk w ok G x.id ⟨true, x.c⟩
theorem HoldsN.left {G N N'} (h : HoldsN G (N ++ N')) : HoldsN G N := fun x hx => h x (by simp [hx])
theorem HoldsN.right {G N N'} (h : HoldsN G (N ++ N')) : HoldsN G N' := fun x hx => h x (by simp [hx])
theorem Fits.append {w ok N N'} (h : Fits w ok N) (k : Fits w ok N') : Fits w ok (N ++ N') := fun G hG x hx => by
  rcases List.mem_append.1 hx with hx | hx
  · exact h G hG.left x hx
  · exact k G hG.right x hx

theorem impLeaf_sim {w ok v p b} (h : RXL w ok v p b) (fid j : Nat) : ∃ N p' wr j', impLeaf fid j p = (p', wr, j') ∧ Taken fid j wr j' b N ∧ Fits w ok N ∧ ∀ G, HoldsN G N → RepL w ok G v p' := by
  cases h with
  | pl h hp =>
    have : impLeaf fid j p = (p, [], j) := by cases p <;> simp_all [impLeaf, plainLeaf]
    exact ⟨[], p, [], j, this, Taken.nil _ _, fun _ _ x hx => by simp at hx, fun G _ => .pl h hp⟩
  | nil e sz =>
    refine ⟨[⟨fid + j, .slice none 0 0, .row e sz []⟩], _, _, _, rfl, ⟨rfl, rfl, by simp, by simp [NE.blk, Value.ownBlock], by simp⟩, fun G hG x hx => ?_, fun G hG => ?_⟩
    · simp at hx; subst hx
      obtain ⟨h1, h2⟩ := hG _ (List.mem_singleton.2 rfl)
      exact ⟨_, h1, h2, .inl ⟨rfl, rfl⟩⟩
    · exact .h (hG _ (List.mem_singleton.2 rfl)).1 rfl
  | nr h =>
    rename_i g c e sz xs
    refine ⟨[⟨fid + j, .slice (some ⟨g, 0, none⟩) xs.length c, .row e sz xs⟩], _, _, _, rfl, ⟨rfl, rfl, by simp, by simp [NE.blk, Value.ownBlock], by simp⟩, fun G hG x hx => ?_, fun G hG => ?_⟩
    · simp at hx; subst hx
      obtain ⟨h1, h2⟩ := hG _ (List.mem_singleton.2 rfl)
      exact ⟨_, h1, h2, h⟩
    · exact .h (hG _ (List.mem_singleton.2 rfl)).1 rfl
theorem impL_sim {w ok vs ps bs} (h : RXs w ok vs ps bs) (fid : Nat) : ∀ j, ∃ N ps' wr j', impL fid j ps = (ps', wr, j') ∧ Taken fid j wr j' bs N ∧ Fits w ok N ∧ ps'.length = vs.length ∧ ∀ G, HoldsN G N → ∀ (i : Nat) v p, vs[i]? = some v → ps'[i]? = some p → RepL w ok G v p := by
  induction h with
  | nil => exact fun j => ⟨[], [], [], j, rfl, Taken.nil _ _, fun _ _ x hx => by simp at hx, rfl, by simp⟩
  | cons h r ih =>
    intro j
    obtain ⟨N, p', wr, j1, e1, t1, f1, r1⟩ := impLeaf_sim h fid j
    obtain ⟨N', ps', wr', j2, e2, t2, f2, l2, r2⟩ := ih j1
    refine ⟨N ++ N', p' :: ps', wr ++ wr', j2, by simp [impL, e1, e2], t1.append t2, f1.append f2, by simp [l2], fun G hG i v p hv hp => ?_⟩
    cases i with
    | zero => simp at hv hp; subst hv; subst hp; exact r1 G hG.left
    | succ i => exact r2 G hG.right i v p (by simpa using hv) (by simpa using hp)
theorem impV_sim {w ok v p b} (h : RXV w ok v p b) (fid j : Nat) : ∃ N p' wr j', impV fid j p = (p', wr, j') ∧ Taken fid j wr j' b N ∧ Fits w ok N ∧ ∀ G, HoldsN G N → RepS w ok G v p' := by
  cases h with
  | leaf h =>
    obtain ⟨N, p', wr, j1, e1, t1, f1, r1⟩ := impLeaf_sim h fid j
    refine ⟨N, p', wr, j1, ?_, t1, f1, fun G hG => .leaf (r1 G hG)⟩
    rw [← e1]
    cases h with
    | pl h hp => cases p <;> simp_all [impV, plainLeaf]
    | nil => rfl
    | nr => rfl
  | agg h =>
    rename_i cells cs
    obtain ⟨N, ps', wr, j1, e1, t1, f1, l1, r1⟩ := impL_sim h fid j
    exact ⟨N, .agg ps', wr, j1, by simp [impV, e1], t1, f1, fun G hG => .agg _ _ (by rw [l1]; simp) (fun i v p hv hp => r1 G hG i v p (by simpa using hv) hp)⟩
  | fn f caps cs hl hv =>
    exact ⟨[], .fn f cs, [], j, rfl, Taken.nil _ _, fun _ _ x hx => by simp at hx, fun G _ => .fn f caps cs hl (fun i v p h1 h2 => .pl (hv i v p h1 h2).1 (hv i v p h1 h2).2)⟩
  | nb hh hz h =>
    rename_i b cur t fz cs bs
    obtain ⟨N, ps', wr, j1, e1, t1, f1, l1, r1⟩ := impL_sim h fid (j + 1)
    refine ⟨⟨fid + j, .pointer (some ⟨b, 0, none⟩), .box ps'⟩ :: N, .pb (fid + j) 0, (fid + j, .set (.box ps')) :: wr, j1, by simp [impV, e1], ⟨by simp [t1.wr], by rw [t1.j', List.length_cons]; omega, ?_, by simp [NE.blk, t1.blks], fun x hx cs hc => (List.mem_cons.1 hx).elim (fun hx => hx ▸ ⟨b, rfl⟩) (fun hx => t1.shape x hx cs hc)⟩, fun G hG x hx => ?_, fun G hG => ?_⟩
    · rw [List.map_cons, t1.ids, List.length_cons, List.range'_succ]
      rfl
    · rcases List.mem_cons.1 hx with rfl | hx
      · obtain ⟨b', hb', hB⟩ := hG _ (List.mem_cons_self)
        injection hb' with hb'; injection hb' with hb'; injection hb' with hb'
        subst hb'
        refine ⟨b, hB, cur, t, fz, hh, by rw [l1]; simp, hz, fun i p hp => ?_⟩
        have hi : i < cur.size := by have := (List.getElem?_eq_some_iff.1 hp).1; rw [l1] at this; simpa using this
        exact ⟨cur[i], by simp [hi], r1 G (fun y hy => hG y (by simp [hy])) i _ p (by simp [hi]) hp⟩
      · exact f1 G (fun y hy => hG y (by simp [hy])) x hx
    · obtain ⟨b', hb', hB⟩ := hG _ (List.mem_cons_self)
      injection hb' with hb'; injection hb' with hb'; injection hb' with hb'
      subst hb'
      exact .leaf (.pb 0 hB)
theorem impVs_sim {w ok vs ps bs} (h : RXVs w ok vs ps bs) (fid : Nat) : ∀ j, ∃ N ps' wr j', impVs fid j ps = (ps', wr, j') ∧ Taken fid j wr j' bs N ∧ Fits w ok N ∧ ps'.length = vs.length ∧ ∀ G, HoldsN G N → ∀ (i : Nat) v p, vs[i]? = some v → ps'[i]? = some p → RepS w ok G v p := by
  induction h with
  | nil => exact fun j => ⟨[], [], [], j, rfl, Taken.nil _ _, fun _ _ x hx => by simp at hx, rfl, by simp⟩
  | cons h r ih =>
    intro j
    obtain ⟨N, p', wr, j1, e1, t1, f1, r1⟩ := impV_sim h fid j
    obtain ⟨N', ps', wr', j2, e2, t2, f2, l2, r2⟩ := ih j1
    refine ⟨N ++ N', p' :: ps', wr ++ wr', j2, by simp [impVs, e1, e2], t1.append t2, f1.append f2, by simp [l2], fun G hG i v p hv hp => ?_⟩
    cases i with
    | zero => simp at hv hp; subst hv; subst hp; exact r1 G hG.left
    | succ i => exact r2 G hG.right i v p (by simpa using hv) (by simpa using hp)
theorem impR_sim {w ok v p b} (h : RXR w ok v p b) (fid j : Nat) : ∃ N p' wr j', impR fid j p = (p', wr, j') ∧ Taken fid j wr j' b N ∧ Fits w ok N ∧ ∀ G, HoldsN G N → RepS w ok G v p' := by
  cases h with
  | one h =>
    obtain ⟨N, p', wr, j1, e1, t1, f1, r1⟩ := impV_sim h fid j
    refine ⟨N, p', wr, j1, ?_, t1, f1, r1⟩
    rw [← e1]
    cases h with
    | leaf h => cases h with
      | pl h hp => cases p <;> simp_all [impR, plainLeaf]
      | nil => rfl
      | nr => rfl
    | agg => rfl
    | fn => rfl
    | nb => rfl
  | tup h =>
    obtain ⟨N, ps', wr, j1, e1, t1, f1, l1, r1⟩ := impVs_sim h fid j
    exact ⟨N, .tup ps', wr, j1, by simp [impR, e1], t1, f1, fun G hG => .tup _ _ (by rw [l1]; simp) (fun i v p hv hp => r1 G hG i v p (by simpa using hv) hp)⟩
/-- The lent ones: new contents. -/
theorem impB_sim {w ok bl lent bs} (h : LX w ok bl lent bs) (fid : Nat) : ∀ (j : Nat) (ds : List Nat), ds.length = bl.length → ∃ (N : List NE) (wb : Wr) (j' : Nat) (css : List (List PV)) (wr : Wr), impB fid j ds lent = some (wb, j') ∧ Taken fid j wr j' bs N ∧ Fits w ok N ∧ css.length = ds.length ∧
    (∀ x, x ∈ wb ↔ x ∈ wr ∨ ∃ (i : Nat) (d : Nat) (cs : List PV), ds[i]? = some d ∧ css[i]? = some cs ∧ x = (d, .set (.box cs))) ∧
    ∀ (G : Gh), HoldsN G N → ∀ (i : Nat) b cs, bl[i]? = some b → css[i]? = some cs → BoxAt w ok G b cs := by
  induction h with
  | nil =>
    intro j ds hd
    have : ds = [] := List.length_eq_zero_iff.1 hd
    subst this
    exact ⟨[], [], j, [], [], rfl, Taken.nil _ _, fun _ _ x hx => by simp at hx, rfl, by simp, by simp⟩
  | cons hh hz h r ih =>
    intro j ds hd
    rename_i b cur t fz cs bl lent b1 bs
    cases ds with
    | nil => simp at hd
    | cons d ds =>
      obtain ⟨N, ps', wr, j1, e1, t1, f1, l1, r1⟩ := impL_sim h fid j
      obtain ⟨N', wb, j2, css, wr', e2, t2, f2, l2, m2, r2⟩ := ih j1 ds (by simpa using hd)
      refine ⟨N ++ N', (d, .set (.box ps')) :: wr ++ wb, j2, ps' :: css, wr ++ wr', by simp [impB, e1, e2], t1.append t2, f1.append f2, by simp [l2], fun x => ?_, fun G hG i b' cs' hb' hcs' => ?_⟩
      · simp only [List.cons_append, List.mem_cons, List.mem_append, m2]
        constructor
        · rintro (rfl | hx | hx | ⟨i, d', cs', h1, h2, h3⟩)
          · exact .inr ⟨0, d, ps', rfl, rfl, rfl⟩
          · exact .inl (.inl hx)
          · exact .inl (.inr hx)
          · exact .inr ⟨i + 1, d', cs', by simpa using h1, by simpa using h2, h3⟩
        · rintro ((hx | hx) | ⟨i, d', cs', h1, h2, h3⟩)
          · exact .inr (.inl hx)
          · exact .inr (.inr (.inl hx))
          · cases i with
            | zero => simp at h1 h2; subst h1; subst h2; exact .inl h3
            | succ i => exact .inr (.inr (.inr ⟨i, d', cs', by simpa using h1, by simpa using h2, h3⟩))
      · cases i with
        | zero =>
          simp at hb' hcs'
          subst hb'; subst hcs'
          refine ⟨cur, t, fz, hh, by rw [l1]; simp, hz, fun i p hp => ?_⟩
          have hi : i < cur.size := by have := (List.getElem?_eq_some_iff.1 hp).1; rw [l1] at this; simpa using this
          exact ⟨cur[i], by simp [hi], r1 G hG.left i _ p (by simp [hi]) hp⟩
        | succ i => exact r2 G hG.right i b' cs' (by simpa using hb') (by simpa using hcs')
end Go.Den
