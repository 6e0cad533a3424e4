/- The seat's codes, their regions named; what each region does: rows for simp. -/
import Derived.Test.YtfgbklmmildakaaDenL1
set_option linter.unusedVariables false
set_option linter.defProp false
set_option maxRecDepth 100000
namespace Go.Proofs.Ytfgbklmmildakaa.D
open Go Go.Den Go.Proofs
end Go.Proofs.Ytfgbklmmildakaa.D
