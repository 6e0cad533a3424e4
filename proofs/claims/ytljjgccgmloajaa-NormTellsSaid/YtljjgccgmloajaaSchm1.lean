/- Values and columns: what the functions come to. -/
import Derived.Test.YtljjgccgmloajaaDenT2
namespace Go.Proofs.Ytljjgccgmloajaa.D
open Go Go.Den
set_option linter.unusedSimpArgs false
set_option linter.unusedVariables false
set_option maxRecDepth 20000
set_option maxHeartbeats 4000000
theorem compareF_bl {o q : Option (List Int)} : compareF [bl o, bl q] = some (.int .i64 (Lib.compareBytes ((bz o).map toU8) ((bz q).map toU8))) := by
  simp only [compareF, bytesP_bl]
theorem SameVal_spec {nl ml : Bool} {k i l j : Int} {o q : Option (List Int)} : dw E 21 [.agg [.bool nl, .int .i64 k, .int .i64 i, bl o], .agg [.bool ml, .int .i64 l, .int .i64 j, bl q]] [] = some (.bool (sameV ⟨nl, k, i, o⟩ ⟨ml, l, j, q⟩), []) := by
  refine dw_intro (fn := Try.f21) rfl rfl (by decide) ?_
  cases hn : (nl == ml) with
  | false => simp -implicitDefEqProofs (maxSteps := 4000000) only [go_sem, go_sem_proc, ↓reduceIte, Nat.min_def, sameV, hn]
  | true =>
    by_cases hk : k = l
    · have ek := eq_true hk
      by_cases hi : i = j
      · have ei := eq_true hi
        simp -implicitDefEqProofs (maxSteps := 4000000) only [go_sem, go_sem_proc, ↓reduceIte, Nat.min_def, sameV, hn, ek, ei, Val.b]
      · simp -implicitDefEqProofs (maxSteps := 4000000) only [go_sem, go_sem_proc, ↓reduceIte, Nat.min_def, sameV, hn, ek, hi]
    · simp -implicitDefEqProofs (maxSteps := 4000000) only [go_sem, go_sem_proc, ↓reduceIte, Nat.min_def, sameV, hn, hk]
end Go.Proofs.Ytljjgccgmloajaa.D
