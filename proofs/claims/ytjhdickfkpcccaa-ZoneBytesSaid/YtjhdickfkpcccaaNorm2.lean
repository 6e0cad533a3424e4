/- One form: one, the other, either, both. -/
import Derived.Test.YtjhdickfkpcccaaNorm1
namespace Go.Proofs.Ytjhdickfkpcccaa.D
open Go Go.Den
set_option linter.unusedSimpArgs false
set_option linter.unusedVariables false
set_option maxRecDepth 20000
set_option maxHeartbeats 4000000
def otherN (o : Int) : Int := if o = 1 then 2 else if o = 2 then 1 else if o = 3 then 6 else if o = 6 then 3 else if o = 4 then 5 else 4
theorem never_spec : dw E 28 [] [] = some (.agg [.nils, .bool true], []) := by
  refine dw_in (fn := Try.f28) rfl body28 (by simp) ?_
  simp -implicitDefEqProofs (maxSteps := 4000000) (disch := omega) only [go_sem, go_sem_proc, dr, Nat.min_def, ↓Nat.reduceBEq, ↓Nat.reduceEqDiff, ↓Nat.reduceLT, ↓Nat.reduceLeDiff, ↓Int.reduceEq, ↓Int.reduceLT, ↓Int.reduceLE, ↓reduceIte]
theorem always_spec : dw E 29 [] [] = some (.agg [.nr 39 1 [[.nils]], .bool true], []) := by
  refine dw_in (fn := Try.f29) rfl body29 (by simp) ?_
  simp -implicitDefEqProofs (maxSteps := 4000000) (disch := omega) only [go_sem, go_sem_proc, dr, Nat.min_def, ↓Nat.reduceBEq, ↓Nat.reduceEqDiff, ↓Nat.reduceLT, ↓Nat.reduceLeDiff, ↓Int.reduceEq, ↓Int.reduceLT, ↓Int.reduceLE, ↓reduceIte]
theorem other_spec {o : Int} : dw E 30 [.int .i64 o] [] = some (.int .i64 (otherN o), []) := by
  refine dw_in (fn := Try.f30) rfl body30 (by simp) ?_
  unfold otherN
  by_cases h1 : o = 1
  · subst h1; simp -implicitDefEqProofs (maxSteps := 4000000) (disch := omega) only [go_sem, go_sem_proc, dr, Nat.min_def, ↓Nat.reduceBEq, ↓Nat.reduceEqDiff, ↓Nat.reduceLT, ↓Nat.reduceLeDiff, ↓Int.reduceEq, ↓Int.reduceLT, ↓Int.reduceLE, ↓reduceIte]
  by_cases h2 : o = 2
  · subst h2; simp -implicitDefEqProofs (maxSteps := 4000000) (disch := omega) only [go_sem, go_sem_proc, dr, Nat.min_def, ↓Nat.reduceBEq, ↓Nat.reduceEqDiff, ↓Nat.reduceLT, ↓Nat.reduceLeDiff, ↓Int.reduceEq, ↓Int.reduceLT, ↓Int.reduceLE, ↓reduceIte]
  by_cases h3 : o = 3
  · subst h3; simp -implicitDefEqProofs (maxSteps := 4000000) (disch := omega) only [go_sem, go_sem_proc, dr, Nat.min_def, ↓Nat.reduceBEq, ↓Nat.reduceEqDiff, ↓Nat.reduceLT, ↓Nat.reduceLeDiff, ↓Int.reduceEq, ↓Int.reduceLT, ↓Int.reduceLE, ↓reduceIte]
  by_cases h6 : o = 6
  · subst h6; simp -implicitDefEqProofs (maxSteps := 4000000) (disch := omega) only [go_sem, go_sem_proc, dr, Nat.min_def, ↓Nat.reduceBEq, ↓Nat.reduceEqDiff, ↓Nat.reduceLT, ↓Nat.reduceLeDiff, ↓Int.reduceEq, ↓Int.reduceLT, ↓Int.reduceLE, ↓reduceIte]
  by_cases h4 : o = 4
  · subst h4; simp -implicitDefEqProofs (maxSteps := 4000000) (disch := omega) only [go_sem, go_sem_proc, dr, Nat.min_def, ↓Nat.reduceBEq, ↓Nat.reduceEqDiff, ↓Nat.reduceLT, ↓Nat.reduceLeDiff, ↓Int.reduceEq, ↓Int.reduceLT, ↓Int.reduceLE, ↓reduceIte]
  simp -implicitDefEqProofs (maxSteps := 4000000) (disch := omega) only [go_sem, go_sem_proc, dr, Nat.min_def, ↓Nat.reduceBEq, ↓Nat.reduceEqDiff, ↓Nat.reduceLT, ↓Nat.reduceLeDiff, ↓Int.reduceEq, ↓Int.reduceLT, ↓Int.reduceLE, ↓reduceIte, h1, h2, h3, h6, h4]
theorem nOne_spec {p : Prd} (hp : Sm p) : dw E 31 [.agg [.int .i64 p.kind, .int .i64 p.col, .int .i64 p.op, .bool p.val.null, .int .i64 p.val.kind, .int .i64 p.val.int, bl p.val.bytes, pl p.nil p.list]] [] = some (.agg [.nr 39 1 [[.sl 8 [p.still.pv]]], .bool true], []) := by
  refine dw_in (fn := Try.f31) rfl body31 (by simp) ?_
  rw [still_pv]
  simp -implicitDefEqProofs (maxSteps := 4000000) (disch := omega) only [go_sem, go_sem_proc, dr, Nat.min_def, ↓Nat.reduceBEq, ↓Nat.reduceEqDiff, ↓Nat.reduceLT, ↓Nat.reduceLeDiff, ↓Int.reduceEq, ↓Int.reduceLT, ↓Int.reduceLE, ↓reduceIte, Still_spec hp]
theorem either_spec {la lb : PV} {A B : Al} {a b : Bool} (ha : IsL la A) (hb : IsL lb B) (hn : (A ++ B).length ≤ 1000000) : dw E 41 [.agg [la, .bool a], .agg [lb, .bool b]] [] =
    some (.agg [.nr 39 1 ((A ++ B).map cv), .bool ((a && b) && decide (((A ++ B).length : Int) ≤ 32))], []) := by
  refine dw_in (fn := Try.f41) rfl body41 (by simp) ?_
  have hc := ConcatA_spec ha hb hn
  rw [List.length_append] at hn
  rcases ha with ⟨rfl, rfl⟩ | rfl <;> rcases hb with ⟨rfl, rfl⟩ | rfl <;> cases a <;> cases b
  all_goals (simp -implicitDefEqProofs (maxSteps := 4000000) (disch := omega) only [go_sem, go_sem_proc, dr, Nat.min_def, ↓Nat.reduceBEq, ↓Nat.reduceEqDiff, ↓Nat.reduceLT, ↓Nat.reduceLeDiff, ↓Int.reduceEq, ↓Int.reduceLT, ↓Int.reduceLE, ↓reduceIte, hc, List.map_append, List.length_append]; try ((repeat' split) <;> (change _ = true; kernel_rfl)))
end Go.Proofs.Ytjhdickfkpcccaa.D
