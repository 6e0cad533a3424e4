/- The seat's codes, their regions named; what each region does: rows for simp. -/
import Derived.Test.YtgocfiehbgoacaaDenL1
set_option linter.unusedVariables false
set_option maxRecDepth 100000
namespace Go.Proofs.Ytgocfiehbgoacaa.D
open Go Go.Den Go.Proofs
end Go.Proofs.Ytgocfiehbgoacaa.D
