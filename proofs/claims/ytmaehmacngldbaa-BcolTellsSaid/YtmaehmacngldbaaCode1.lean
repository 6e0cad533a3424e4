/- The functions of numbers and bytes: what they come to. -/
import Derived.Test.YtmaehmacngldbaaDenT2
namespace Go.Proofs.Ytmaehmacngldbaa.D
open Go Go.Den
set_option linter.unusedSimpArgs false
set_option linter.unusedVariables false
set_option maxRecDepth 20000
end Go.Proofs.Ytmaehmacngldbaa.D
