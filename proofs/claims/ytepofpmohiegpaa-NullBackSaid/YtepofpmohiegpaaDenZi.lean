/- Den, part Zi: columns and values, and what is said of them. No program in sight. -/
import Derived.Test.YtepofpmohiegpaaDenZh
namespace Go.Den
open Go
structure Col where
  name : List UInt8
  kind : Int
  null : Bool
structure Val where
  null : Bool
  kind : Int
  int : Int
  bytes : Option (List Int)
def Col.pv (c : Col) : List PV := [.str c.name, .int .i64 c.kind, .bool c.null]
def Val.pv (v : Val) : List PV := [.bool v.null, .int .i64 v.kind, .int .i64 v.int, bl v.bytes]
def Val.b (v : Val) : List UInt8 := (bz v.bytes).map toU8
def isV (v : Val) : Bool :=
  if v.kind = 1 then (if v.null then decide (v.int = 0) && decide ((bz v.bytes).length = 0) else decide ((bz v.bytes).length = 0))
  else if v.kind = 2 then (if v.null then decide (v.int = 0) && decide ((bz v.bytes).length = 0) else decide (v.int = 0) && decide ((bz v.bytes).length ≤ 64))
  else false
def holds (c : Col) (v : Val) : Bool := isV v && (decide (v.kind = c.kind) && (c.null || !v.null))
def fits (s : List Col) (r : List Val) : Bool := decide (r.length = s.length) && (List.zipWith holds s r).all id
def cmpI (a b : Int) : Int := if a < b then -1 else if b < a then 1 else 0
def rankV (v : Val) : Int := if v.null then 0 else 1
def cmpV (a b : Val) : Int :=
  if cmpI (rankV a) (rankV b) ≠ 0 ∨ a.null = true then cmpI (rankV a) (rankV b)
  else if a.kind = 1 then cmpI a.int b.int else if a.kind = 2 then Lib.compareBytes a.b b.b else 0
def cmpRows : List Val → List Val → Int
  | [], [] => 0
  | [], _ :: _ => -1
  | _ :: _, [] => 1
  | a :: r, b :: s => if cmpV a b ≠ 0 then cmpV a b else cmpRows r s
def sameV (a b : Val) : Bool := a.null == b.null && (decide (a.kind = b.kind) && (decide (a.int = b.int) && a.b == b.b))
def sameR (a b : List Val) : Bool := decide (a.length = b.length) && (List.zipWith sameV a b).all id
theorem map_get {α : Type} (f : α → List PV) (l : List α) (i : Nat) : (l.map f)[i]? = l[i]?.map f := List.getElem?_map ..
attribute [go_sem] List.length_map map_get Col.pv Val.pv
end Go.Den
