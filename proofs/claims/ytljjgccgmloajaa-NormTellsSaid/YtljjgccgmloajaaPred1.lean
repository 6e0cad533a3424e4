/- Predicates: what the functions come to. -/
import Derived.Test.YtljjgccgmloajaaSchm3
import Derived.Test.YtljjgccgmloajaaDenK4
namespace Go.Proofs.Ytljjgccgmloajaa.D
open Go Go.Den
set_option linter.unusedSimpArgs false
set_option linter.unusedVariables false
set_option maxRecDepth 20000
set_option maxHeartbeats 4000000
theorem Val_spec {nl : Bool} {k i : Int} {o : Option (List Int)} (ho : (bz o).length ≤ 1000000) : dw E 35 [.agg [.bool nl, .int .i64 k, .int .i64 i, bl o]] [] = some (.agg [.bool nl, .int .i64 k, .int .i64 i, .nr 5 1 (ints .u8 (bz o))], []) := by
  refine dw_in (fn := Try.f35) rfl rfl (by decide) ?_
  have hc := cloneF_bl o 5 (by omega)
  simp -implicitDefEqProofs (maxSteps := 4000000) (disch := omega) only [go_sem, go_sem_proc, dr, Nat.min_def, ↓Nat.reduceBEq, ↓Nat.reduceEqDiff, ↓Nat.reduceLT, ↓Nat.reduceLeDiff, ↓Int.reduceEq, ↓Int.reduceLT, ↓Int.reduceLE, ↓reduceIte, hc]
end Go.Proofs.Ytljjgccgmloajaa.D
