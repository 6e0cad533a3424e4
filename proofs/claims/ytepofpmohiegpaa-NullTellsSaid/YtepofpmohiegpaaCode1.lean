/- The functions of numbers and bytes: what they come to. -/
import Derived.Test.YtepofpmohiegpaaDenT2
namespace Go.Proofs.Ytepofpmohiegpaa.D
open Go Go.Den
set_option linter.unusedSimpArgs false
set_option maxRecDepth 20000
end Go.Proofs.Ytepofpmohiegpaa.D
