/- The functions of numbers and bytes: what they come to. -/
import Derived.Test.YtojaklgmojmjeaaDenT2
namespace Go.Proofs.Ytojaklgmojmjeaa.D
open Go Go.Den
set_option linter.unusedSimpArgs false
set_option linter.unusedVariables false
set_option maxRecDepth 20000
theorem Zig_spec {n : Int} (h0 : -9223372036854775808 ≤ n) (h1 : n < 9223372036854775808) : dw E 63 [.int .i64 n] [] = some (.int .u64 (zig n), []) := by
  refine dw_intro (fn := Try.f63) rfl rfl (by decide) ?_
  simp -implicitDefEqProofs (maxSteps := 4000000) only [go_sem, go_sem_proc, ↓reduceIte, Nat.min_def, zig_law h0 h1]
theorem Zag_spec {u : Int} (h0 : 0 ≤ u) (h1 : u < 18446744073709551616) : dw E 32 [.int .u64 u] [] = some (.int .i64 (zag u), []) := by
  refine dw_intro (fn := Try.f32) rfl rfl (by decide) ?_
  simp -implicitDefEqProofs (maxSteps := 4000000) only [go_sem, go_sem_proc, ↓reduceIte, Nat.min_def, and_one, zag_law h0 h1]
end Go.Proofs.Ytojaklgmojmjeaa.D
