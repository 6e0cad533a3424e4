/- Den, part A: a deterministic evaluator of the model's code on pure values. Definitions alone. -/
import Derived.Orders
import Derived.Laws.BitsLemmas
namespace Go.Den

/-- Pure values. A struct is a flat list of leaves, as the machine lays it. -/
inductive PV where
  | undef
  | int (k : IntKind) (n : Int)
  | bool (b : Bool)
  | str (s : List UInt8)
  | nils
  | sl (sz : Nat) (xs : List (List PV))
  | h (d : Nat)
  | nilp
  | pb (d off : Nat)
  | pe (d i off : Nat)
  | pc (cs : List PV)
  | nilf
  | fn (f : FuncId) (caps : List PV)
  | agg (cs : List PV)
  | tup (vs : List PV)
  | nr (e : TypeId) (sz : Nat) (xs : List (List PV))
  | nb (cs : List PV)
  deriving Inhabited

/-- What an id stands for: a row, or a variable in memory. -/
inductive Cont where
  | row (e : TypeId) (sz : Nat) (xs : List (List PV))
  | box (cs : List PV)
  deriving Inhabited
/-- own: it may be written and appended to. -/
structure Ent where
  own : Bool
  c : Cont
  deriving Inhabited

def get {α : Type} : List (Nat × α) → Nat → Option α
  | [], _ => none
  | (k, v) :: r, i => if k == i then some v else get r i

structure St where
  sl : List (Nat × PV)
  mem : List (Nat × Option Ent)
  ep : Nat
  deriving Inhabited

def St.slot (S : St) (t : Nat) : Option PV := get S.sl t
def atM (m : List (Nat × Option Ent)) (d : Nat) : Option Ent :=
  match get m d with
  | some e => e
  | none => none
def St.at (S : St) (d : Nat) : Option Ent := atM S.mem d

/-- Reads of ids: what is there; what is there, and is own. -/
inductive RM (α : Type) : Type where
  | ret (a : α)
  | fail
  | rdc (d : Nat) (k : Cont → RM α)
  | own (d : Nat) (k : Cont → RM α)

def RM.bind {α β : Type} : RM α → (α → RM β) → RM β
  | .ret a, f => f a
  | .fail, _ => .fail
  | .rdc d k, f => .rdc d fun e => (k e).bind f
  | .own d k, f => .own d fun e => (k e).bind f

/-- A footprint: contents read, own rows read. -/
def RM.run {α : Type} : RM α → (Nat → Option Ent) → Option (α × List Nat × List Nat)
  | .ret a, _ => some (a, [], [])
  | .fail, _ => none
  | .rdc d k, m =>
    match m d with
    | some e =>
      match (k e.c).run m with
      | some (a, l, o) => some (a, d :: l, o)
      | none => none
    | none => none
  | .own d k, m =>
    match m d with
    | some e =>
      match e.own with
      | true =>
        match (k e.c).run m with
        | some (a, l, o) => some (a, l, d :: o)
        | none => none
      | false => none
    | none => none

def RM.of {α : Type} : Option α → RM α
  | some a => .ret a
  | none => .fail

/-- A write: a new content that is own; gone; from now on only read. -/
inductive W1 where
  | set (c : Cont)
  | del
  | fz
abbrev Wr := List (Nat × W1)
def putM (m : List (Nat × Option Ent)) (d : Nat) : W1 → List (Nat × Option Ent)
  | .set c => (d, some ⟨true, c⟩) :: m
  | .del => (d, none) :: m
  | .fz => match atM m d with | some e => (d, some ⟨false, e.c⟩) :: m | none => m
def putMs (m : List (Nat × Option Ent)) : Wr → List (Nat × Option Ent)
  | [] => m
  | (d, x) :: r => putMs (putM m d x) r

/-! ### types -/
def tSize (P : Program) (t : TypeId) : Option Nat := match P.info? t with | some i => some i.size | none => none
def tBytes (P : Program) (t : TypeId) : Option Nat := match P.info? t with | some i => some i.bytes | none => none
def tAgg (P : Program) (t : TypeId) : Option Bool :=
  match P.underlying t with
  | some (.struct _) | some (.array ..) => some true
  | some _ => some false
  | none => none
def constPV : Value → Option PV
  | .int k n => some (.int k n)
  | .bool b => some (.bool b)
  | .string s => some (.str s.data.toList)
  | .slice none 0 0 => some .nils
  | .pointer none => some .nilp
  | .nilFunc => some .nilf
  | _ => none
def constsPV : List Value → Option (List PV)
  | [] => some []
  | v :: r =>
    match constPV v, constsPV r with
    | some x, some xs => some (x :: xs)
    | _, _ => none
def tZero (P : Program) (t : TypeId) : Option (List PV) :=
  match P.info? t with
  | some i => match i.zero with | some v => constsPV v.cells.toList | none => none
  | none => none
def tField (P : Program) (t : TypeId) (j : Nat) : Option (Nat × TypeId) :=
  match P.underlying t with
  | some (.struct fs) => match fs[j]? with | some f => some (f.offset, f.type) | none => none
  | _ => none
def tElem (P : Program) (t : TypeId) : Option TypeId :=
  match P.underlying t with
  | some (.slice e) => some e
  | _ => none

/-- The leaves of a value that may lie in memory. -/
def okLeaf : PV → Bool
  | .int .. | .bool _ | .str _ | .nils | .sl .. | .nilp | .pc _ | .nilf | .h _ | .pb .. | .pe .. => true
  | _ => false
def leavesO : PV → Option (List PV)
  | .agg cs => some cs
  | v => if okLeaf v then some [v] else none
def mkv (agg : Bool) (cs : List PV) : Option PV :=
  match agg with
  | true => some (.agg cs)
  | false => match cs with | [v] => some v | _ => none

/-! ### sealing: what is stored where it may be shared -/
def plainLeaf : PV → Bool
  | .int .. | .bool _ | .str _ | .nils | .sl .. | .nilp | .pc _ | .nilf => true
  | _ => false
def sealLeaf : PV → RM (PV × Wr)
  | .h d => .rdc d fun
    | .row _ sz xs => .ret (.sl sz xs, [(d, .fz)])
    | _ => .fail
  | .pb d off => .rdc d fun
    | .box cs => if cs.all plainLeaf then .ret (.pc (cs.drop off), [(d, .fz)]) else .fail
    | _ => .fail
  | v => if plainLeaf v then .ret (v, []) else .fail
def sealL : List PV → RM (List PV × Wr)
  | [] => .ret ([], [])
  | v :: r => (sealLeaf v).bind fun x => (sealL r).bind fun y => .ret (x.1 :: y.1, x.2 ++ y.2)
def sealV : PV → RM (PV × Wr)
  | .agg cs => (sealL cs).bind fun x => .ret (.agg x.1, x.2)
  | .fn f caps => (sealL caps).bind fun x => .ret (.fn f x.1, x.2)
  | v => sealLeaf v
def sealLL : List (List PV) → RM (List (List PV) × Wr)
  | [] => .ret ([], [])
  | v :: r => (sealL v).bind fun x => (sealLL r).bind fun y => .ret (x.1 :: y.1, x.2 ++ y.2)

/-! ### plain operations -/
def cmpInt (op : BinOp) (a b : Int) : Option Bool :=
  match op with
  | .eql => some (a == b)
  | .neq => some (a != b)
  | .lss => some (decide (a < b))
  | .leq => some (decide (a ≤ b))
  | .gtr => some (decide (a > b))
  | .geq => some (decide (a ≥ b))
  | _ => none
def binInt (op : BinOp) (k : IntKind) (a b : Int) : Option PV :=
  match op with
  | .add => some (.int k (k.wrap (a + b)))
  | .sub => some (.int k (k.wrap (a - b)))
  | .mul => some (.int k (k.wrap (a * b)))
  | .quo => if b = 0 then none else some (.int k (k.wrap (a.tdiv b)))
  | .rem => if b = 0 then none else some (.int k (a.tmod b))
  | .and => some (.int k (k.wrap (BitVec.ofInt k.bits a &&& BitVec.ofInt k.bits b).toNat))
  | .or => some (.int k (k.wrap (BitVec.ofInt k.bits a ||| BitVec.ofInt k.bits b).toNat))
  | .xor => some (.int k (k.wrap (BitVec.ofInt k.bits a ^^^ BitVec.ofInt k.bits b).toNat))
  | .andNot => some (.int k (k.wrap (BitVec.ofInt k.bits a &&& ~~~ BitVec.ofInt k.bits b).toNat))
  | _ => match cmpInt op a b with | some r => some (.bool r) | none => none
def binStr (op : BinOp) (a b : List UInt8) : Option PV :=
  match op with
  | .add => if a.length + b.length ≤ 9223372036854775807 then some (.str (a ++ b)) else none
  | .eql => some (.bool (a == b))
  | .neq => some (.bool (!(a == b)))
  | .lss => some (.bool (Op.bytesLess a b))
  | .leq => some (.bool (Op.bytesLess a b || a == b))
  | .gtr => some (.bool (!(Op.bytesLess a b || a == b)))
  | .geq => some (.bool (!Op.bytesLess a b))
  | _ => none
def isPtr : PV → Bool
  | .pb .. | .pe .. | .pc _ => true
  | _ => false
def evBin (P : Program) (op : BinOp) (t : TypeId) (x y : PV) : Option PV :=
  match x with
  | .int k a =>
    match y with
    | .int k' b =>
      match op with
      | .shl => if b < 0 then none else some (.int k (k.wrap (a * 2 ^ (min b.toNat k.bits))))
      | .shr => if b < 0 then none else some (.int k (a.fdiv (2 ^ (min b.toNat k.bits))))
      | _ => if k = k' then binInt op k a b else none
    | _ => none
  | .str a => match y with | .str b => binStr op a b | _ => none
  | .bool a =>
    match y with
    | .bool b =>
      match P.underlying t with
      | some .bool => match op with | .eql => some (.bool (a == b)) | .neq => some (.bool (!(a == b))) | _ => none
      | _ => none
    | _ => none
  | x =>
    match P.underlying t with
    | some (.pointer _) =>
      match y with
      | .nilp =>
        match op with
        | .eql => match x with | .nilp => some (.bool true) | x => if isPtr x then some (.bool false) else none
        | .neq => match x with | .nilp => some (.bool false) | x => if isPtr x then some (.bool true) else none
        | _ => none
      | _ => none
    | _ => none
def evUn (op : UnOp) (x : PV) : Option PV :=
  match op with
  | .neg => match x with | .int k n => some (.int k (k.wrap (0 - n))) | _ => none
  | .not => match x with | .bool b => some (.bool (!b)) | _ => none
  | .xor => match x with | .int k n => some (.int k (k.wrap (BitVec.ofInt k.bits (if k.signed then -1 else k.max) ^^^ BitVec.ofInt k.bits n).toNat)) | _ => none
  | _ => none

def toBytes : List (List PV) → Option (List UInt8)
  | [] => some []
  | [.int .u8 n] :: r => match toBytes r with | some l => some (UInt8.ofNat n.toNat :: l) | none => none
  | _ => none
def ofBytes (l : List UInt8) : List (List PV) := l.map fun b => [.int .u8 b.toNat]

def splice (cs : List PV) (off : Nat) (vs : List PV) : List PV := cs.take off ++ vs ++ cs.drop (off + vs.length)

/-- The elements of a literal: each the zero, or what is given for it. -/
def fillE (zero : List PV) (n : Nat) (parts : List (Nat × List PV)) : List (List PV) :=
  (List.range n).map fun i => (get parts i).getD zero
def fillF (place : Nat → Option (Nat × Nat)) (cells : List PV) : List (Nat × List PV) → Option (List PV)
  | [] => some cells
  | (i, v) :: r =>
    match place i with
    | some (off, n) => if v.length = n ∧ off + n ≤ cells.length then fillF place (splice cells off v) r else none
    | none => none
/-- Each place once. -/
def nodupK {α : Type} : List (Nat × α) → Bool
  | [] => true
  | x :: r => !(r.any fun y => y.1 == x.1) && nodupK r

def evOp (g : Nat → Option PV) : Operand → Option PV
  | .tmp t => g t
  | .const v => constPV v
  | .global _ => none
  | .func f => some (.fn f [])
def evOps (g : Nat → Option PV) : List Operand → Option (List PV)
  | [] => some []
  | x :: r =>
    match evOp g x, evOps g r with
    | some v, some vs => some (v :: vs)
    | _, _ => none
def evParts (g : Nat → Option PV) : List (Nat × Operand) → Option (List (Nat × List PV))
  | [] => some []
  | (i, x) :: r =>
    match (evOp g x).bind leavesO, evParts g r with
    | some v, some vs => some ((i, v) :: vs)
    | _, _ => none

/-- a bound that is given, or the other -/
def bnd (v : Option (Option PV)) (lim : Nat) (dflt : Nat) : Option Nat :=
  match v with
  | none => some dflt
  | some (some (.int _ i)) => if 0 ≤ i ∧ i ≤ lim then some i.toNat else none
  | _ => none
def bounds (n : Nat) (lo hi mx : Option (Option PV)) : Option (Nat × Nat) :=
  if mx.isSome && hi.isNone then none else
  match bnd mx n n with
  | none => none
  | some m =>
    match bnd hi m n with
    | none => none
    | some h =>
      match bnd lo h 0 with
      | none => none
      | some l => some (l, h)

/-- A value of type t out of cells. -/
def loadC (P : Program) (t : TypeId) (cs : List PV) (off : Nat) : Option PV :=
  match tSize P t, tAgg P t with
  | some n, some g => if off + n ≤ cs.length then mkv g ((cs.drop off).take n) else none
  | _, _ => none

/-- Calls that are told by rule. -/
inductive Ext where
  | clip
  | fn (f : List PV → Option PV)

/-- What is kept at a loop's head: a slot; its leaves that are rows of the call's own, nil or not: (leaf, element type, size). -/
structure NI where
  t : Nat
  rows : List (Nat × TypeId × Nat) := []

structure Env where
  P : Program
  fns : FuncId → Option Func
  lv : FuncId → Nat → List NI
  ext : FuncId → Option Ext

abbrev Call := FuncId → List PV → List (List PV) → Option (PV × List (List PV))

/-- slices.Clone -/
def cloneF (e : TypeId) (sz bytes : Nat) : List PV → Option PV
  | [.nils] => some (.nr e sz [])
  | [.sl sz' xs] => if sz' == sz && Nat.ble (xs.length * (bytes + 1)) 70368744177664 then some (.nr e sz xs) else none
  | _ => none

/-- Does a result tell of what was handed in (as far as its form shows)? -/
def sharesP : PV → Bool
  | .sl .. | .pc _ | .fn .. | .nr .. | .nb _ => true
  | _ => false
def sharesR : PV → Bool
  | .nr _ _ xs => xs.any fun x => x.any sharesP
  | p => sharesP p
def sharesLeaf : PV → Bool
  | .nb cs => cs.any sharesR
  | p => sharesR p
def shares : PV → Bool
  | .agg cs => cs.any sharesLeaf
  | .tup vs => vs.any fun | .agg cs => cs.any sharesLeaf | v => sharesLeaf v
  | v => sharesLeaf v

def lentId (j : Nat) : Nat := 16777216 + j
/-- The arguments of a call: what is handed over, what is frozen if the result shares, what is lent. -/
def lendA : List PV → List (Nat × List PV) → RM (List PV × Wr × Wr × List (Nat × List PV))
  | [], bs => .ret ([], [], [], bs)
  | v :: r, bs =>
    match v with
    | .pb d 0 => .own d fun
      | .box cs =>
        if bs.any fun b => b.1 == d then .fail else
        (sealL cs).bind fun x => (lendA r (bs ++ [(d, x.1)])).bind fun y => .ret (.pb (lentId bs.length) 0 :: y.1, y.2.1, x.2 ++ y.2.2.1, y.2.2.2)
      | _ => .fail
    | v => (sealV v).bind fun x => (lendA r bs).bind fun y => .ret (x.1 :: y.1, x.2 ++ y.2.1, y.2.2)

/-- Results taken in: new ids for what is new. -/
def impLeaf (fid : Nat) (j : Nat) : PV → PV × Wr × Nat
  | .nr e sz xs => (.h (fid + j), [(fid + j, .set (.row e sz xs))], j + 1)
  | v => (v, [], j)
def impL (fid : Nat) : Nat → List PV → List PV × Wr × Nat
  | j, [] => ([], [], j)
  | j, v :: r =>
    match impLeaf fid j v with
    | (x, w, j1) => match impL fid j1 r with | (xs, w', j2) => (x :: xs, w ++ w', j2)
def impV (fid : Nat) (j : Nat) : PV → PV × Wr × Nat
  | .agg cs => match impL fid j cs with | (xs, w, j1) => (.agg xs, w, j1)
  | .nb cs => match impL fid (j + 1) cs with | (xs, w, j1) => (.pb (fid + j) 0, (fid + j, .set (.box xs)) :: w, j1)
  | v => impLeaf fid j v
def impVs (fid : Nat) : Nat → List PV → List PV × Wr × Nat
  | j, [] => ([], [], j)
  | j, v :: r =>
    match impV fid j v with
    | (x, w, j1) => match impVs fid j1 r with | (xs, w', j2) => (x :: xs, w ++ w', j2)
def impR (fid : Nat) (j : Nat) : PV → PV × Wr × Nat
  | .tup vs => match impVs fid j vs with | (xs, w, j1) => (.tup xs, w, j1)
  | v => impV fid j v
def impB (fid : Nat) : Nat → List Nat → List (List PV) → Option (Wr × Nat)
  | j, [], [] => some ([], j)
  | j, d :: ds, cs :: r =>
    match impL fid j cs with
    | (xs, w, j1) => match impB fid j1 ds r with | some (w', j2) => some ((d, .set (.box xs)) :: w ++ w', j2) | none => none
  | _, _, _ => none

def callOf (_E : Env) (call : Call) (f : FuncId) (x : Option Ext) (y : List PV × Wr × Wr × List (Nat × List PV)) : Option (PV × List (List PV)) :=
  match x with
  | some (.fn g) => if y.2.2.2.isEmpty then (match g y.1 with | some r => some (r, []) | none => none) else none
  | _ => call f y.1 (y.2.2.2.map (·.2))
def callSem (E : Env) (call : Call) (fid : Nat) (f : FuncId) (args : List PV) : RM (PV × Wr) :=
  match E.ext f with
  | some .clip =>
    match args with
    | [.nils] => .ret (.nils, [])
    | [.sl sz xs] => .ret (.sl sz xs, [])
    | [.h d] => .own d fun
      | .row e sz xs => .ret (.h fid, [(d, .del), (fid, .set (.row e sz xs))])
      | _ => .fail
    | _ => .fail
  | x =>
    (lendA args []).bind fun (y : List PV × Wr × Wr × List (Nat × List PV)) =>
      if (y.2.1 ++ y.2.2.1).any (fun z => y.2.2.2.any fun b => b.1 == z.1) then .fail else
      match callOf E call f x y with
      | none => .fail
      | some (r, lent) =>
        match impR fid 0 r with
        | (v, w, j) =>
          match impB fid j (y.2.2.2.map (·.1)) lent with
          | none => .fail
          | some (wb, j') => if j' ≤ 64 then .ret (v, (if shares r || !y.2.2.2.isEmpty then y.2.1 else []) ++ y.2.2.1 ++ w ++ wb) else .fail

/-- The elements (of n cells each) that a slice tells. -/
def elemsOf (n : Nat) : PV → RM (List (List PV))
  | .nils => .ret []
  | .sl sz xs => if sz == n then .ret xs else .fail
  | .h d => .rdc d fun | .row _ sz xs => if sz == n then .ret xs else .fail | _ => .fail
  | _ => .fail
def lenOf : PV → RM Nat
  | .nils => .ret 0
  | .sl _ xs => .ret xs.length
  | .h d => .rdc d fun | .row _ _ xs => .ret xs.length | _ => .fail
  | _ => .fail
/-- Lengths and sizes stay far below what the machine bears. -/
def lim : Nat := 70368744177664

def retO : Option PV → RM (PV × Wr)
  | some v => .ret (v, [])
  | none => .fail
def lenS (P : Program) (t : Option TypeId) (a : PV) : RM (PV × Wr) :=
  match t with
  | none => .fail
  | some t =>
    match P.underlying t with
    | some .string => match a with | .str s => .ret (.int .i64 s.length, []) | _ => .fail
    | some (.slice _) => (lenOf a).bind fun n => .ret (.int .i64 n, [])
    | _ => .fail
def minmaxS (mx : Bool) : List PV → RM (PV × Wr)
  | [.int k a, .int k' b] => if k = k' then .ret (.int k (match mx with | true => if b > a then b else a | false => if b < a then b else a), []) else .fail
  | _ => .fail
def appendTo (fid : Nat) (e n bytes : Nat) (ys : List (List PV)) (x : PV) : RM (PV × Wr) :=
  match x with
  | .nils => if ys.length * (bytes + 1) ≤ lim then .ret (.h fid, [(fid, .set (.row e n ys))]) else .fail
  | .h d => .own d fun
    | .row e' sz xs =>
      if e' == e && sz == n && decide ((xs.length + ys.length) * (bytes + 1) ≤ lim) then .ret (.h fid, [(d, .del), (fid, .set (.row e sz (xs ++ ys)))]) else .fail
    | _ => .fail
  | _ => .fail
def appendS (P : Program) (fid : Nat) (t t' : Option TypeId) (x y : PV) : RM (PV × Wr) :=
  match t, t' with
  | some t, some t' =>
    match P.underlying t, P.underlying t' with
    | some (.slice e), some u =>
      match tSize P e, tBytes P e, tZero P e with
      | some (n + 1), some b, some z =>
        if z.length == n + 1 then
          match u with
          | .string => match y with | .str s => if n == 0 then appendTo fid e 1 b (ofBytes s) x else .fail | _ => .fail
          | .slice _ => (elemsOf (n + 1) y).bind fun ys => appendTo fid e (n + 1) b ys x
          | _ => .fail
        else .fail
      | _, _, _ => .fail
    | _, _ => .fail
  | _, _ => .fail
def builtinSem (P : Program) (fid : Nat) (b : Builtin) (ts : Array TypeId) (args : List PV) : RM (PV × Wr) :=
  match b with
  | .len => match args with | [x] => lenS P ts[0]? x | _ => .fail
  | .max => minmaxS true args
  | .min => minmaxS false args
  | .append => match args with | [x, y] => (if ts.size == 2 then appendS P fid ts[0]? ts[1]? x y else .fail) | _ => .fail
  | _ => .fail
def loadS (P : Program) (t : TypeId) : PV → RM (PV × Wr)
  | .pb d off => .rdc d fun | .box cs => retO (loadC P t cs off) | _ => .fail
  | .pe d i off => .rdc d fun | .row _ _ xs => (match xs[i]? with | some cs => retO (loadC P t cs off) | none => .fail) | _ => .fail
  | .pc cs => retO (loadC P t cs 0)
  | _ => .fail
def storeS (P : Program) (t : TypeId) (a : PV) (v : List PV) : RM (PV × Wr) :=
  match tSize P t with
  | none => .fail
  | some n =>
    if v.length == n then
      match a with
      | .pb d off => .own d fun
        | .box cs => if off + n ≤ cs.length then .ret (.undef, [(d, .set (.box (splice cs off v)))]) else .fail
        | _ => .fail
      | .pe d i off => .own d fun
        | .row e sz xs =>
          match xs[i]? with
          | some cs => (sealL v).bind fun s => if off + n ≤ cs.length ∧ (s.2.all fun x => !(x.1 == d)) = true then .ret (.undef, s.2 ++ [(d, .set (.row e sz (xs.set i (splice cs off s.1))))]) else .fail
          | none => .fail
        | _ => .fail
      | _ => .fail
    else .fail
def convS (P : Program) (fid : Nat) (s t : TypeId) (a : PV) : RM (PV × Wr) :=
  match P.underlying s, P.underlying t with
  | some _, some (.int k) => match a with | .int _ n => .ret (.int k (k.wrap n), []) | _ => .fail
  | some .string, some .string => match a with | .str l => .ret (.str l, []) | _ => .fail
  | some .string, some (.slice e) =>
    match P.underlying e, a with
    | some (.int .u8), .str l => if tSize P e = some 1 then .ret (.h fid, [(fid, .set (.row e 1 (ofBytes l)))]) else .fail
    | _, _ => .fail
  | some (.slice _), some (.slice e') =>
    match P.underlying e', a with
    | some (.int .u8), .h d => if s == t then .own d fun | .row e1 sz xs => (if xs.isEmpty then .fail else .ret (.h d, [(d, .set (.row e1 sz xs))])) | _ => .fail else .fail
    | _, _ => .fail
  | some (.slice e), some .string =>
    match P.underlying e with
    | some (.int .u8) => (elemsOf 1 a).bind fun xs => retO (match toBytes xs with | some l => some (.str l) | none => none)
    | _ => .fail
  | _, _ => .fail
def makeS (P : Program) (fid : Nat) (t : TypeId) (a b : PV) : RM (PV × Wr) :=
  match P.underlying t with
  | some (.slice e) =>
    match tZero P e, tSize P e, tBytes P e with
    | some z, some (n + 1), some by' =>
      if z.length == n + 1 then
      match a, b with
      | .int _ x, .int _ c => if 0 ≤ x ∧ x ≤ c ∧ c * (by' + 1) ≤ lim then .ret (.h fid, [(fid, .set (.row e (n + 1) (List.replicate x.toNat z)))]) else .fail
      | _, _ => .fail
      else .fail
    | _, _, _ => .fail
  | _ => .fail
def sliceS (P : Program) (t : TypeId) (a : PV) (lo hi mx : Option (Option PV)) : RM (PV × Wr) :=
  match P.underlying t with
  | some .string =>
    match a, mx with
    | .str s, none => match bounds s.length lo hi none with | some (l, h) => .ret (.str ((s.take h).drop l), []) | none => .fail
    | _, _ => .fail
  | some (.slice e) =>
    match tSize P e, a with
    | some _, .nils => match bounds 0 lo hi mx with | some _ => .ret (.nils, []) | none => .fail
    | some n, .sl sz xs => match bounds xs.length lo hi mx with | some (l, h) => if sz == n then .ret (.sl sz ((xs.take h).drop l), []) else .fail | none => .fail
    | some n, .h d => .rdc d fun
      | .row _ sz xs =>
        match bounds xs.length lo hi mx with
        | some (l, h) => if sz == n then .ret (.sl sz ((xs.take h).drop l), [(d, .fz)]) else .fail
        | none => .fail
      | _ => .fail
    | _, _ => .fail
  | _ => .fail
def fieldAddrS (P : Program) (t : TypeId) (j : Nat) (a : PV) : RM (PV × Wr) :=
  match tField P t j with
  | some (off, ft) =>
    match tSize P ft with
    | some (_ + 1) =>
      match a with
      | .pb d o => .ret (.pb d (o + off), [])
      | .pe d i o => .ret (.pe d i (o + off), [])
      | .pc cs => .ret (.pc (cs.drop off), [])
      | _ => .fail
    | _ => .fail
  | none => .fail
def indexAddrS (P : Program) (t : TypeId) (a i : PV) : RM (PV × Wr) :=
  match P.underlying t with
  | some (.slice e) =>
    match tSize P e, i with
    | some (m + 1), .int _ n =>
      if 0 ≤ n then
        match a with
        | .sl sz xs => if sz == m + 1 then (match xs[n.toNat]? with | some cs => .ret (.pc cs, []) | none => .fail) else .fail
        | .h d => .rdc d fun | .row _ sz xs => if sz == m + 1 && decide (n.toNat < xs.length) then .ret (.pe d n.toNat 0, []) else .fail | _ => .fail
        | _ => .fail
      else .fail
    | _, _ => .fail
  | _ => .fail
def indexS (P : Program) (t : TypeId) (a i : PV) : RM (PV × Wr) :=
  match P.underlying t, a, i with
  | some .string, .str s, .int _ n => if 0 ≤ n then (match s[n.toNat]? with | some c => .ret (.int .u8 c.toNat, []) | none => .fail) else .fail
  | _, _, _ => .fail
def tPlaces (P : Program) (t : TypeId) : Option (List (Nat × Nat)) :=
  match P.underlying t with
  | some (.struct fs) => fs.toList.mapM fun f => (P.info? f.type).map fun i => (f.offset, i.size)
  | _ => none
def buildS (P : Program) (t : TypeId) (l : List (Nat × List PV)) : RM (PV × Wr) :=
  match tPlaces P t, tZero P t with
  | some pl, some z =>
    match fillF (fun j => pl[j]?) z l with
    | some cs => .ret (.agg cs, [])
    | none => .fail
  | _, _ => .fail
def buildSliceS (P : Program) (fid : Nat) (t : TypeId) (n : Nat) (l : List (Nat × List PV)) : RM (PV × Wr) :=
  match P.underlying t with
  | some (.slice e) =>
    match tSize P e, tZero P e with
    | some (s + 1), some z =>
      if decide (n * (s + 1) ≤ 16777216) && decide (z.length = s + 1) && (l.all fun x => x.2.length == s + 1 && Nat.blt x.1 n) && nodupK l then
        (sealLL (fillE z n l)).bind fun x => .ret (.h fid, x.2 ++ [(fid, .set (.row e (s + 1) x.1))])
      else .fail
    | _, _ => .fail
  | _ => .fail
def opSem (E : Env) (call : Call) (fid : Nat) (g : Nat → Option PV) (op : Op) : RM (PV × Wr) :=
  match op with
  | .move x | .assign x => retO (evOp g x)
  | .pick c a b => match evOp g c with | some (.bool t) => (match t with | true => retO (evOp g a) | false => retO (evOp g b)) | _ => .fail
  | .alloc t => match tZero E.P t with | some cs => .ret (.pb fid 0, [(fid, .set (.box cs))]) | none => .fail
  | .box _ x => (RM.of ((evOp g x).bind leavesO)).bind fun cs => .ret (.pb fid 0, [(fid, .set (.box cs))])
  | .build t ps => (RM.of (evParts g ps.toList)).bind fun l => buildS E.P t l
  | .buildSlice t n ps => (RM.of (evParts g ps.toList)).bind fun l => buildSliceS E.P fid t n l
  | .load t x => (RM.of (evOp g x)).bind fun a => loadS E.P t a
  | .store t x y => (RM.of (evOp g x)).bind fun a => (RM.of ((evOp g y).bind leavesO)).bind fun v => storeS E.P t a v
  | .nilCheck x => (RM.of (evOp g x)).bind fun v => if isPtr v then .ret (v, []) else .fail
  | .binOp op t x y _ => (RM.of (evOp g x)).bind fun a => (RM.of (evOp g y)).bind fun b => retO (evBin E.P op t a b)
  | .unOp op _ x => (RM.of (evOp g x)).bind fun a => retO (evUn op a)
  | .convert s t x => (RM.of (evOp g x)).bind fun a => convS E.P fid s t a
  | .makeSlice t n c => (RM.of (evOp g n)).bind fun a => (RM.of (evOp g c)).bind fun b => makeS E.P fid t a b
  | .slice t x lo hi mx => (RM.of (evOp g x)).bind fun a => sliceS E.P t a (lo.map (evOp g)) (hi.map (evOp g)) (mx.map (evOp g))
  | .fieldAddr t x j => (RM.of (evOp g x)).bind fun a => fieldAddrS E.P t j a
  | .field t x j => (RM.of (evOp g x)).bind fun a =>
    match tField E.P t j, a with
    | some (off, ft), .agg cs => retO (loadC E.P ft cs off)
    | _, _ => .fail
  | .indexAddr t x i => (RM.of (evOp g x)).bind fun a => (RM.of (evOp g i)).bind fun b => indexAddrS E.P t a b
  | .index t x i => (RM.of (evOp g x)).bind fun a => (RM.of (evOp g i)).bind fun b => indexS E.P t a b
  | .extract x j => (RM.of (evOp g x)).bind fun
    | .tup vs => retO vs[j]?
    | _ => .fail
  | .makeFunc (.func f) first caps =>
    if first.isEmpty then (match evOps g caps.toList with | some cs => (if cs.all okLeaf then .ret (.fn f cs, []) else .fail) | none => .fail) else .fail
  | .call c =>
    match evOps g c.args.toList with
    | none => .fail
    | some args =>
      match c.callee with
      | .builtin b => builtinSem E.P fid b c.argTypes args
      | .value x => (RM.of (evOp g x)).bind fun
        | .fn f caps => callSem E call fid f (args ++ caps)
        | _ => .fail
      | _ => .fail
  | _ => .fail

/-- contents read, own ones read, written, frozen -/
structure Tr where
  rc : List Nat
  ro : List Nat
  w : List Nat
  fz : List Nat
def wrHard (w : Wr) : List Nat := w.filterMap fun x => match x.2 with | .fz => none | _ => some x.1
def wrSoft (w : Wr) : List Nat := w.filterMap fun x => match x.2 with | .fz => some x.1 | _ => none

def St.put (S : St) (dst : Option Tmp) (v : PV) (w : Wr) : St :=
  { S with sl := (match dst with | some t => (t, v) :: S.sl | none => S.sl), mem := putMs S.mem w }
/-- Is the operation wanted? -/
def wantsO (ops : Array Oper) (o : Oper) (S : St) : Option Bool :=
  match o.guard with
  | none => some true
  | some (j, want) =>
    match ops[j]? with
    | some q =>
      match q.dst with
      | some t =>
        match S.slot t with
        | some (.bool b) => some (b == want)
        | some .undef => some false
        | _ => none
      | none => none
    | none => none
def stepO (E : Env) (call : Call) (ops : Array Oper) (i : Nat) (o : Oper) (S : St) : Option (St × Tr) :=
  match wantsO ops o S with
  | none => none
  | some false => some (S.put o.dst .undef [], ⟨[], [], [], []⟩)
  | some true =>
    match (opSem E call (S.ep * 33554432 + i * 64) S.slot o.op).run S.at with
    | some ((v, w), rc, ro) => some (S.put o.dst v w, ⟨rc, ro, wrHard w, wrSoft w⟩)
    | none => none
def runO (E : Env) (call : Call) (ops : Array Oper) : Nat → List Oper → St → Option (St × List Tr)
  | _, [], S => some (S, [])
  | i, o :: r, S =>
    match stepO E call ops i o S with
    | none => none
    | some (S1, t) =>
      match runO E call ops (i + 1) r S1 with
      | none => none
      | some (S2, ts) => some (S2, t :: ts)

/-! ### any order -/
def idless : Op → Bool
  | .move _ | .assign _ | .pick .. | .build .. | .binOp .. | .unOp .. | .fieldAddr .. | .field .. | .index .. | .extract .. | .makeFunc .. | .nilCheck _ => true
  | _ => false
def hardPairs (ops : List Oper) (opsA : Array Oper) (bef : Array Nat) : Option (List (Nat × Nat)) :=
  ops.zipIdx.foldr (init := some []) fun (oj, j) acc =>
    ops.zipIdx.foldr (init := acc) fun (oi, i) acc =>
      if i < j && !(bef.getD j 0).testBit i then
        if !oi.apart opsA oj then none
        else if idless oi.op || idless oj.op then acc
        else acc.map ((i, j) :: ·)
      else acc
/-- Who is before whom: told by the edges. -/
def befOK (ops : Array Oper) (bef : Array Nat) : Bool :=
  ops.toList.zipIdx.all fun (o, j) => (List.range ops.size).all fun i => !(bef.getD j 0).testBit i || o.after.any fun e => Region.binds .any e && (e.on == i || (bef.getD e.on 0).testBit i)
def meets (a b : List Nat) : Bool := a.any fun x => b.any fun y => x == y
def clash1 (x y : Tr) : Bool := meets x.w y.rc || meets x.w y.ro || meets x.w y.w || meets x.w y.fz || meets x.fz y.ro
def clash (x y : Tr) : Bool := clash1 x y || clash1 y x
def drawOK (ops : Array Oper) (tr : List Tr) : Bool :=
  Region.noSelect ops && (ops.all fun o => match o.guard with | some (j, _) => o.after.any fun e => e.on == j && Region.binds .any e | none => true) &&
  (ops.toList.zipIdx.all fun (o, i) => o.after.all fun e => !Region.binds .any e || e.on < i) &&
  befOK ops (Region.before ops) &&
  match hardPairs ops.toList ops (Region.before ops) with
  | none => false
  | some ps => ps.all fun (i, j) => match tr[i]?, tr[j]? with | some a, some b => !clash a b | _, _ => false

/-! ### at a loop's head -/
def isLent (d : Nat) : Bool := Nat.ble 16777216 d && Nat.blt d 33554432
/-- What is kept: slots, entries, where the entries were. -/
abbrev NR := List (Nat × PV) × List (Nat × Ent) × List Nat × List Nat
def leafId (t j : Nat) : Nat := 2097152 + t * 64 + j
def boxId (t : Nat) : Nat := 1048576 + t
/-- dup: rows that two slots hold are from now on only read. -/
def normLeaf (S : St) (dup : Nat → Bool) (t j : Nat) (row : Option (TypeId × Nat)) (v : PV) : Option (PV × List (Nat × Ent) × List Nat × List Nat) :=
  match v with
  | .h d =>
    match S.at d with
    | some ⟨true, .row e sz xs⟩ => if dup d then some (.sl sz xs, [], [], [d]) else some (.h (leafId t j), [(leafId t j, ⟨true, .row e sz xs⟩)], [d], [])
    | some ⟨false, .row _ sz xs⟩ => some (.sl sz xs, [], [], [])
    | _ => none
  | .nils =>
    match row with
    | some (e, sz) => some (.h (leafId t j), [(leafId t j, ⟨true, .row e sz []⟩)], [], [])
    | none => some (.nils, [], [], [])
  | v => if plainLeaf v then some (v, [], [], []) else none
def normLeafs (S : St) (dup : Nat → Bool) (t : Nat) (rows : List (Nat × TypeId × Nat)) : Nat → List PV → Option (List PV × List (Nat × Ent) × List Nat × List Nat)
  | _, [] => some ([], [], [], [])
  | j, v :: r =>
    match normLeaf S dup t j (get rows j) v, normLeafs S dup t rows (j + 1) r with
    | some x, some y => some (x.1 :: y.1, x.2.1 ++ y.2.1, x.2.2.1 ++ y.2.2.1, x.2.2.2 ++ y.2.2.2)
    | _, _ => none
def normI (S : St) (dup : Nat → Bool) (n : NI) : Option NR :=
  match S.slot n.t with
  | none => none
  | some v =>
    match v with
    | .agg cs => match normLeafs S dup n.t n.rows 0 cs with | some (vs, w, ds, fs) => some ([(n.t, .agg vs)], w, ds, fs) | none => none
    | .fn _ cs => if cs.all plainLeaf then some ([(n.t, v)], [], [], []) else none
    | .pb d off =>
      if isLent d then some ([(n.t, v)], [], [], []) else
      match S.at d with
      | some ⟨true, .box cs⟩ => match normLeafs S dup n.t n.rows 0 cs with | some (vs, w, ds, fs) => some ([(n.t, .pb (boxId n.t) off)], (boxId n.t, ⟨true, .box vs⟩) :: w, d :: ds, fs) | none => none
      | _ => none
    | v => match normLeaf S dup n.t 0 (get n.rows 0) v with | some (x, w, ds, fs) => some ([(n.t, x)], w, ds, fs) | none => none
def normL (S : St) (dup : Nat → Bool) : List NI → Option NR
  | [] => some ([], [], [], [])
  | x :: r =>
    match normI S dup x, normL S dup r with
    | some a, some b => some (a.1 ++ b.1, a.2.1 ++ b.2.1, a.2.2.1 ++ b.2.2.1, a.2.2.2 ++ b.2.2.2)
    | _, _ => none
/-- What was lent stays. -/
def normLent (S : St) : Nat → Option (List (Nat × Ent))
  | 0 => some []
  | n + 1 =>
    match S.at (lentId n), normLent S n with
    | some ⟨true, .box cs⟩, some r => if cs.all plainLeaf then some ((lentId n, ⟨true, .box cs⟩) :: r) else none
    | _, _ => none
def nodupB : List Nat → Bool
  | [] => true
  | x :: r => !(r.any fun y => y == x) && nodupB r
/-- the own rows that a slot holds -/
def heldP (S : St) : List PV → List Nat
  | [] => []
  | .h d :: r => d :: heldP S r
  | _ :: r => heldP S r
def heldI (S : St) (n : NI) : List Nat :=
  match S.slot n.t with
  | some (.h d) => [d]
  | some (.agg cs) => heldP S cs
  | some (.pb d _) => (match S.at d with | some ⟨_, .box cs⟩ => heldP S cs | _ => [])
  | _ => []
def twice : List Nat → List Nat
  | [] => []
  | x :: r => if r.any (· == x) then x :: twice r else twice r
def norm (n : Nat) (S : St) (L : List NI) : Option St :=
  match twice (L.flatMap (heldI S)) with
  | dups =>
    match normL S (fun d => dups.any (· == d)) L, normLent S n with
    | some (sl, m, ds, fs), some lent =>
      if nodupB (m.map (·.1)) && nodupB ds && (m.all fun x => Nat.blt x.1 16777216) && (ds.all fun d => !isLent d) && (fs.all fun d => !(ds.any (· == d))) then
        some { sl := sl, mem := (m ++ lent).map fun x => (x.1, some x.2), ep := 1 } else none
    | _, _ => none

inductive Out where
  | normal
  | exit (id : Nat)
  | ret

def firstRid : Code → Nat
  | .region id _ _ => id
  | .seq a _ => firstRid a
  | .cond _ a _ => firstRid a
  | .block _ b => firstRid b
  | .loop b => firstRid b
  | .scope b => firstRid b
  | _ => 0

/-- Round after round. -/
def iter (nrm : St → Option St) (body : St → Option (Out × St)) : Nat → St → Option (Out × St)
  | 0, _ => none
  | k + 1, S =>
    match nrm S with
    | none => none
    | some S1 =>
      match body S1 with
      | none => none
      | some (o, S2) => match o with | .normal => iter nrm body k S2 | o => some (o, S2)

def denC (E : Env) (call : Call) (f : FuncId) (nl : Nat) (k : Nat) : Code → St → Option (Out × St)
  | .skip, S => some (.normal, S)
  | .region _ ops draw, S =>
    match runO E call ops 0 ops.toList S with
    | none => none
    | some (S', tr) => if Nat.ble ops.size 524288 && (!draw || drawOK ops tr) then some (.normal, { S' with ep := S'.ep + 1 }) else none
  | .seq a b, S =>
    match denC E call f nl k a S with
    | none => none
    | some (o, S1) => match o with | .normal => denC E call f nl k b S1 | o => some (o, S1)
  | .cond c a b, S =>
    match evOp S.slot c with
    | some (.bool t) => (match t with | true => denC E call f nl k a S | false => denC E call f nl k b S)
    | _ => none
  | .block id b, S =>
    match denC E call f nl k b S with
    | none => none
    | some (o, S1) => match o with | .exit id' => (if id' == id then some (.normal, S1) else some (.exit id', S1)) | o => some (o, S1)
  | .loop b, S => iter (fun S => norm nl S (E.lv f (firstRid b))) (denC E call f nl k b) k S
  | .exit id, S => some (.exit id, S)
  | .ret, S => some (.ret, S)
  | _, _ => none

/-! ### a call, from its beginning to its end -/
def expLeaf (S : St) (used : List Nat) : PV → Option (PV × List Nat)
  | .h d =>
    match S.at d with
    | some ⟨true, .row e sz xs⟩ => if used.any (· == d) then none else some (.nr e sz xs, d :: used)
    | some ⟨false, .row _ sz xs⟩ => some (.sl sz xs, used)
    | _ => none
  | v => if plainLeaf v then some (v, used) else none
def expL (S : St) : List Nat → List PV → Option (List PV × List Nat)
  | used, [] => some ([], used)
  | used, v :: r =>
    match expLeaf S used v with
    | none => none
    | some (x, u1) => match expL S u1 r with | none => none | some (xs, u2) => some (x :: xs, u2)
def expV (S : St) (used : List Nat) : PV → Option (PV × List Nat)
  | .agg cs => match expL S used cs with | some (xs, u) => some (.agg xs, u) | none => none
  | .fn f cs => if cs.all plainLeaf then some (.fn f cs, used) else none
  | .pb d off =>
    match S.at d with
    | some ⟨true, .box cs⟩ =>
      if off == 0 && !isLent d && !(used.any (· == d)) then (match expL S (d :: used) cs with | some (xs, u) => some (.nb xs, u) | none => none) else none
    | _ => none
  | v => expLeaf S used v
def expVs (S : St) : List Nat → List PV → Option (List PV × List Nat)
  | used, [] => some ([], used)
  | used, v :: r =>
    match expV S used v with
    | none => none
    | some (x, u1) => match expVs S u1 r with | none => none | some (xs, u2) => some (x :: xs, u2)
def expB (S : St) : List Nat → List Nat → Option (List (List PV) × List Nat)
  | used, [] => some ([], used)
  | used, d :: r =>
    match S.at d with
    | some ⟨true, .box cs⟩ =>
      match expL S used cs with
      | none => none
      | some (x, u1) => match expB S u1 r with | none => none | some (xs, u2) => some (x :: xs, u2)
    | _ => none
def resO (P : Program) (S : St) : ResultVar → Option PV
  | .tmp t => S.slot t
  | .cell a t =>
    match S.slot a with
    | some (.pb d off) => match S.at d with | some ⟨_, .box cs⟩ => loadC P t cs off | _ => none
    | _ => none
def resOs (P : Program) (S : St) : List ResultVar → Option (List PV)
  | [] => some []
  | x :: r => match resO P S x, resOs P S r with | some v, some vs => some (v :: vs) | _, _ => none
def finish (P : Program) (fn : Func) (n : Nat) (S : St) : Option (PV × List (List PV)) :=
  match resOs P S fn.results.toList with
  | none => none
  | some vs =>
    match expVs S [] vs with
    | none => none
    | some (xs, u) =>
      match expB S u ((List.range n).map lentId) with
      | none => none
      | some (lent, _) => match xs with | [x] => some (x, lent) | xs => some (.tup xs, lent)
def entry (args : List PV) (lent : List (List PV)) : St :=
  { sl := args.zipIdx.map fun x => (x.2, x.1), mem := lent.zipIdx.map fun x => (lentId x.2, some ⟨true, .box x.1⟩), ep := 1 }
def den (E : Env) : Nat → Call
  | 0, _, _, _ => none
  | k + 1, f, args, lent =>
    match E.fns f with
    | none => none
    | some fn =>
      match fn.body, Nat.ble lent.length 64 with
      | none, _ | _, false => none
      | some c, true =>
        match denC E (den E k) f lent.length k c (entry args lent) with
        | some (.normal, S) | some (.ret, S) => finish E.P fn lent.length S
        | _ => none
end Go.Den
