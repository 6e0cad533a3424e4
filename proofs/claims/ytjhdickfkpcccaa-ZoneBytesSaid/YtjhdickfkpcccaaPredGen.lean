/- Predicates of numbers: what the statements' own function comes to. -/
import Derived.Test.YtjhdickfkpcccaaPred2
import Derived.Test.YtjhdickfkpcccaaDenL2

namespace Go.Proofs.Ytjhdickfkpcccaa.D
open Go Go.Den
set_option linter.unusedSimpArgs false
set_option linter.unusedVariables false
set_option maxRecDepth 20000
set_option maxHeartbeats 4000000
end Go.Proofs.Ytjhdickfkpcccaa.D
