/- A value of its own memory; what zones lean on. -/
import Derived.Test.YtfgbklmmildakaaSchm3
import Derived.Test.YtfgbklmmildakaaDenK4
namespace Go.Proofs.Ytfgbklmmildakaa.D
open Go Go.Den
set_option linter.unusedSimpArgs false
set_option linter.unusedVariables false
set_option maxRecDepth 20000
set_option maxHeartbeats 8000000
theorem Val_spec {nl : Bool} {k i : Int} {o : Option (List Int)} (ho : (bz o).length ≤ 1000000) : dw E 40 [.agg [.bool nl, .int .i64 k, .int .i64 i, bl o]] [] = some (.agg [.bool nl, .int .i64 k, .int .i64 i, .nr 5 1 (ints .u8 (bz o))], []) := by
  refine dw_in (fn := Try.f40) rfl rfl (by decide) ?_
  have hc := cloneF_bl o 5 (by omega)
  simp -implicitDefEqProofs (maxSteps := 4000000) (disch := omega) only [go_sem, go_sem_proc, dr, Nat.min_def, ↓reduceIte, hc]
theorem bl_some (zs : List Int) : bl (some zs) = .sl 1 (ints .u8 zs) := rfl
theorem bl_none : bl none = .nils := rfl
end Go.Proofs.Ytfgbklmmildakaa.D
