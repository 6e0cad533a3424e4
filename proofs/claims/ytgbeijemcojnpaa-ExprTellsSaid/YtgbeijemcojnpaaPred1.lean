/- Predicates: what the functions come to. -/
import Derived.Test.YtgbeijemcojnpaaSchm3
import Derived.Test.YtgbeijemcojnpaaDenK4
namespace Go.Proofs.Ytgbeijemcojnpaa.D
open Go Go.Den
set_option linter.unusedSimpArgs false
set_option linter.unusedVariables false
set_option maxRecDepth 20000
set_option maxHeartbeats 4000000
end Go.Proofs.Ytgbeijemcojnpaa.D
