/- Groups: IDs, how many are never ended. -/
import Derived.Test.YtfgbklmmildakaaGrop3
namespace Go.Proofs.Ytfgbklmmildakaa.D
open Go Go.Den
set_option linter.unusedSimpArgs false
set_option linter.unusedVariables false
set_option maxRecDepth 20000
set_option maxHeartbeats 8000000
theorem awake13 : dw E 8 [] [] = some (.bool true, []) := dw_of (k := 200) (by kernel_rfl)
theorem IDs_spec {P : List PV} {ids : List Int} {S : List (List PV)} (h : ids.length ≤ 1000000) : dw E 9 [.pb 16777216 0] [[.pc P, .sl 1 (ints .i64 ids), .sl 4 S]] = some (.nr 3 1 (ints .i64 ids), [[.pc P, .sl 1 (ints .i64 ids), .sl 4 S]]) := by
  have hc := cloneF_sl (k := .i64) 3 8 ids (by omega)
  refine dw_in (fn := Try.f9) rfl body9 (by simp) ?_
  simp -implicitDefEqProofs (maxSteps := 4000000) (disch := omega) only [go_sem, go_sem_proc, dr, Nat.min_def, ↓reduceIte, hc]
theorem Never0 : dw E 20 [.agg [.int .i64 0, .int .i64 0]] [] = some (.bool true, []) := dw_of (k := 60) (by kernel_rfl)
theorem Live_spec {P : List PV} {I : List (List PV)} {S : List (List PV)} (h : S.length ≤ 1000000) (hz : ∀ (i : Nat) (x : List PV), S[i]? = some x → x = [PV.int .i64 0, PV.int .i64 0, PV.int .i64 0, PV.int .i64 0]) : dw E 10 [.pb 16777216 0] [[.pc P, .sl 1 I, .sl 4 S]] = some (.int .i64 S.length, [[.pc P, .sl 1 I, .sl 4 S]]) := by
  have hN := Never0
  refine dw_in (fn := Try.f10) rfl body10 (by simp) ?_
  simp -implicitDefEqProofs (maxSteps := 4000000) (disch := omega) only [go_sem, go_sem_proc, dr, Nat.min_def, ↓reduceIte]
  refine runs_for (fun i : Nat => (⟨[(3, .int .i64 i), (9, .sl 4 S), (10, .int .i64 S.length), (11, .int .i64 i)], [(16777216, some ⟨true, .box [.pc P, .sl 1 I, .sl 4 S]⟩)], 1⟩ : St)) S.length ?_ ?_ ?_
  · simp -implicitDefEqProofs (maxSteps := 4000000) (disch := omega) only [go_sem, go_sem_proc, dr, Nat.min_def, ↓reduceIte]
  · intro i hi
    obtain ⟨x, hx, _, _⟩ := take_get hi
    have := hz i x hx
    subst this
    clear hz
    simp -implicitDefEqProofs (maxSteps := 4000000) (disch := omega) only [go_sem, go_sem_proc, dr, Nat.min_def, ↓reduceIte, hx, hN]
  · simp -implicitDefEqProofs (maxSteps := 4000000) (disch := omega) only [go_sem, go_sem_proc, dr, Nat.min_def, ↓reduceIte]
end Go.Proofs.Ytfgbklmmildakaa.D
