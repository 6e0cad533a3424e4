/- The seat's codes, their regions named; what each region does: rows for simp. -/
import Derived.Test.YtljjgccgmloajaaDenL1
set_option linter.unusedVariables false
set_option maxRecDepth 100000
namespace Go.Proofs.Ytljjgccgmloajaa.D
open Go Go.Den Go.Proofs
end Go.Proofs.Ytljjgccgmloajaa.D
