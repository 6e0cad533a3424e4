/- slices.Collect and slices.Values at [][]byte, as the evaluator asks for them. -/
import Derived.Test.YtmaehmacngldbaaBcol1
import Derived.Test.YtmaehmacngldbaaDenC2
import Derived.WalkKit
import Derived.Lib.Walk
namespace Go.Proofs.Ytmaehmacngldbaa.D
open Go Go.Proofs Go.RowKit
theorem collectS_runs : Go.Den.RunsCollectS Try.prog 74 76 28 := fun Bs sv zs h w hb hc hI =>
  (collect_runs Bs sv zs h w hb hc hI).mono fun e w' ⟨v, he, hown, _, hbel⟩ => ⟨v, he, hown, hbel⟩
set_option linter.unusedSimpArgs false
set_option linter.unusedVariables false
set_option maxRecDepth 100000 in
theorem valuesB_runs : Go.Den.RunsValues Try.prog 66 76 := fun a n c w => by
  go_enter Try.func66, Try.ntmps66
  go_wp2
  go_ret
  refine ⟨rfl, _, rfl⟩
end Go.Proofs.Ytmaehmacngldbaa.D
