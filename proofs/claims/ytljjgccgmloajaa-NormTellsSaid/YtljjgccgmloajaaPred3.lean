/- Whether a predicate is right. -/
import Derived.Test.YtljjgccgmloajaaPred2
import Derived.Test.YtljjgccgmloajaaDenL2
namespace Go.Proofs.Ytljjgccgmloajaa.D
open Go Go.Den
set_option linter.unusedSimpArgs false
set_option linter.unusedVariables false
set_option maxRecDepth 20000
set_option maxHeartbeats 4000000
def noneV (v : Val) : Bool := sameV v valZ
def bareB (c o : Int) (v : Val) : Bool := decide (c = 0) && (decide (o = 0) && noneV v)
def kindAt (s : List Col) (c : Int) : Int := (s.getD c.toNat keyCol).kind
def inB (s : List Col) (c : Int) : Bool := decide (0 ≤ c) && decide (c < s.length)
def oneB (s : List Col) (k c o : Int) (v : Val) (n : Nat) : Bool :=
  if k = 1 then bareB c o v && decide (n = 0)
  else if k = 2 then inB s c && (decide (1 ≤ o) && (decide (o ≤ 6) && (isV v && (!v.null && (decide (v.kind = kindAt s c) && decide (n = 0))))))
  else if k = 3 then inB s c && (decide (o = 0) && (noneV v && decide (n = 0)))
  else if k = 4 then bareB c o v && decide (n ≤ 8)
  else if k = 5 then bareB c o v && decide (n ≤ 8)
  else if k = 6 then bareB c o v && decide (n = 1)
  else false
theorem dec_cast (n : Nat) (k : Nat) : decide ((n : Int) = (k : Int)) = decide (n = k) := by
  rw [decide_eq_decide]; omega
end Go.Proofs.Ytljjgccgmloajaa.D
