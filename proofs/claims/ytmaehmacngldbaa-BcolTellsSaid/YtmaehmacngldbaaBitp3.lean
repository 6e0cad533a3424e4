/- One of the numbers; rows of numbers that are the same. -/
import Derived.Test.YtmaehmacngldbaaBitp2
namespace Go.Proofs.Ytmaehmacngldbaa.D
open Go Go.Den
set_option linter.unusedSimpArgs false
set_option linter.unusedVariables false
set_option maxRecDepth 20000
set_option maxHeartbeats 4000000
/-- what one number is told with -/
def resA : Option Nat → PV
  | some x => .tup [.int .u64 x, .bool true]
  | none => .tup [.int .u64 0, .bool false]
end Go.Proofs.Ytmaehmacngldbaa.D
