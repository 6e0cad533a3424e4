/- CodeZigs: what the law comes to. -/
import Derived.Test.YtahhpnilblcfcaaCode1
namespace Go.Proofs.Ytahhpnilblcfcaa.D
open Go Go.Den
set_option maxRecDepth 100000
theorem awake2 : dw E 16 [] [] = some (.bool true, []) := dw_of (k := 100) (by kernel_rfl)
theorem CodeZigs_spec {n : Int} (h0 : -9223372036854775808 ≤ n) (h1 : n < 9223372036854775808) : dw E 4 [.int .i64 n] [] = some (.bool true, []) := by
  refine dw_intro (fn := Try.f4) rfl rfl (by decide) ?_
  by_cases hn : n < 0
  · by_cases hm : -9223372036854775808 < n
    · have e1 : (0 - n + 9223372036854775808) % 18446744073709551616 - 9223372036854775808 = -n := by omega
      have e2 : (zig n + 1) % 18446744073709551616 = zig (-n) := by unfold zig; split <;> split <;> omega
      simp -implicitDefEqProofs only [go_sem, ↓reduceIte, reduceCtorEq, reduceDIte, Nat.reduceAdd, Nat.reduceMul, Nat.reduceSub, Nat.reduceBEq, Nat.reduceBNe, Nat.reduceBeqDiff, Nat.reduceLT, Nat.reduceLeDiff, Nat.reduceEqDiff, Nat.reduceDiv, Nat.reduceMod, Nat.reducePow, Int.reduceLT, Int.reduceLE, Int.reduceGT, Int.reduceGE, Int.reduceEq, Int.reduceNe, Int.reduceToNat, Int.reduceNeg, Int.reducePow, Int.reduceAdd, Int.reduceMul, Int.reduceSub, Int.reduceBEq, Int.reduceMod, Int.reduceDiv, Int.reduceNatCast, Nat.min_def, Zig_spec h0 h1, Zag_spec (zig_lo n) (zig_hi h0 h1), zag_zig, and_one, zig_odd, hn, hm, awake2, e1, e2, Zig_spec (n := -n) (by omega) (by omega)]
    · simp -implicitDefEqProofs only [go_sem, ↓reduceIte, reduceCtorEq, reduceDIte, Nat.reduceAdd, Nat.reduceMul, Nat.reduceSub, Nat.reduceBEq, Nat.reduceBNe, Nat.reduceBeqDiff, Nat.reduceLT, Nat.reduceLeDiff, Nat.reduceEqDiff, Nat.reduceDiv, Nat.reduceMod, Nat.reducePow, Int.reduceLT, Int.reduceLE, Int.reduceGT, Int.reduceGE, Int.reduceEq, Int.reduceNe, Int.reduceToNat, Int.reduceNeg, Int.reducePow, Int.reduceAdd, Int.reduceMul, Int.reduceSub, Int.reduceBEq, Int.reduceMod, Int.reduceDiv, Int.reduceNatCast, Nat.min_def, Zig_spec h0 h1, Zag_spec (zig_lo n) (zig_hi h0 h1), zag_zig, and_one, zig_odd, hn, hm, awake2]
  · have hm : -9223372036854775808 < n := by omega
    have e1 : 2 * (n % 18446744073709551616) % 18446744073709551616 = zig n := by unfold zig; split <;> omega
    simp -implicitDefEqProofs only [go_sem, ↓reduceIte, reduceCtorEq, reduceDIte, Nat.reduceAdd, Nat.reduceMul, Nat.reduceSub, Nat.reduceBEq, Nat.reduceBNe, Nat.reduceBeqDiff, Nat.reduceLT, Nat.reduceLeDiff, Nat.reduceEqDiff, Nat.reduceDiv, Nat.reduceMod, Nat.reducePow, Int.reduceLT, Int.reduceLE, Int.reduceGT, Int.reduceGE, Int.reduceEq, Int.reduceNe, Int.reduceToNat, Int.reduceNeg, Int.reducePow, Int.reduceAdd, Int.reduceMul, Int.reduceSub, Int.reduceBEq, Int.reduceMod, Int.reduceDiv, Int.reduceNatCast, Nat.min_def, Zig_spec h0 h1, Zag_spec (zig_lo n) (zig_hi h0 h1), zag_zig, and_one, zig_odd, hn, hm, awake2, e1]
end Go.Proofs.Ytahhpnilblcfcaa.D
