/- What the document asks of sets, aggregates, rows, and of what an op has. -/
import Derived.Test.YtgbeijemcojnpaaExpr4
import Derived.Test.YtgbeijemcojnpaaExpr5
namespace Go.Proofs.Ytgbeijemcojnpaa.D
open Go Go.Den
set_option linter.unusedSimpArgs false
set_option linter.unusedVariables false
set_option maxRecDepth 20000
set_option maxHeartbeats 8000000
theorem refcol_spec {s : List Col} {c : Int} (hs : s.length ≤ 20) : dw E 31 [.agg [.sl 3 (s.map Col.pv)], .int .i64 c] [] = some (.bool (inB s c), []) := by
  unfold inB
  refine dw_in (fn := Try.f31) rfl body31 (by simp) ?_
  rcases Classical.propComplete (0 ≤ c) with h1 | h1
  · simp -implicitDefEqProofs (maxSteps := 4000000) (disch := omega) only [go_sem, go_sem_proc, dr, Nat.min_def, ↓Nat.reduceBEq, ↓Nat.reduceEqDiff, ↓Nat.reduceLT, ↓Nat.reduceLeDiff, ↓Int.reduceEq, ↓Int.reduceLT, ↓Int.reduceLE, ↓reduceIte, h1, decide_true, Bool.true_and]
  · simp -implicitDefEqProofs (maxSteps := 4000000) (disch := omega) only [go_sem, go_sem_proc, dr, Nat.min_def, ↓Nat.reduceBEq, ↓Nat.reduceEqDiff, ↓Nat.reduceLT, ↓Nat.reduceLeDiff, ↓Int.reduceEq, ↓Int.reduceLT, ↓Int.reduceLE, ↓reduceIte, h1, decide_false, Bool.false_and]
theorem same_zero (p : Prd) : p.same (.mk 0 0 0 valZ true []) = sameZ p := by
  obtain ⟨k, c, o, v, n, l⟩ := p
  rw [Prd.same, sames_eq]
  unfold sameZ noneV
  dsimp only [Prd.kind, Prd.col, Prd.op, Prd.val, Prd.list]
  cases l with
  | nil => simp; rfl
  | cons a r => simp
theorem refsame_spec {p : Prd} (hp : Sl p) : dw E 46 [.agg [.int .i64 p.kind, .int .i64 p.col, .int .i64 p.op, .bool p.val.null, .int .i64 p.val.kind, .int .i64 p.val.int, bl p.val.bytes, pl p.nil p.list], .agg [.int .i64 0, .int .i64 0, .int .i64 0, .bool false, .int .i64 0, .int .i64 0, .nils, .nils]] [] = some (.bool (sameZ p), []) := by
  have h := SamePred_spec hp (q := .mk 0 0 0 valZ true []) (.mk (by simp [valZ, bz]) (by simp) (by simp))
  rw [same_zero] at h
  exact h
theorem refnone_TFFFF {o : OpN} (hp : Sl o.pred) : dw E 28 [.agg [.int .i64 o.kind, sf o.rn 4 (o.row.map Val.pv), .int .i64 o.pred.kind, .int .i64 o.pred.col, .int .i64 o.pred.op, .bool o.pred.val.null, .int .i64 o.pred.val.kind, .int .i64 o.pred.val.int, bl o.pred.val.bytes, pl o.pred.nil o.pred.list, sf o.sn 6 (o.sets.map SetN.pv), sf o.cn 1 (o.cols.map intPV), .int .i64 o.group, sf o.an 2 (o.aggs.map AggN.pv)], .bool true, .bool false, .bool false, .bool false, .bool false] [] = some (.bool (bareO true false false false false o), []) := by
  have hN := refsame_spec hp
  clear hp
  unfold bareO
  have np : ∀ n : Nat, (0 < n) = ¬ (n = 0) := fun n => propext (by omega)
  simp only [np, decide_not]
  refine dw_in (fn := Try.f28) rfl body28 (by simp) ?_
  rcases hz : sameZ o.pred with _ | _
  · rw [hz] at hN
    simp -implicitDefEqProofs (maxSteps := 4000000) (disch := omega) only [go_sem, go_sem_proc, dr, Nat.min_def, ↓Nat.reduceBEq, ↓Nat.reduceEqDiff, ↓Nat.reduceLT, ↓Nat.reduceLeDiff, ↓Int.reduceEq, ↓Int.reduceLT, ↓Int.reduceLE, ↓reduceIte, hN, hz, ncz, bb, if_true, if_false, Bool.false_eq_true]
    first | done | ((repeat' split) <;> (change _ = true; kernel_rfl))
  rw [hz] at hN
  rcases Classical.propComplete (o.sets.length = 0) with h3 | h3
  rotate_left
  · simp -implicitDefEqProofs (maxSteps := 4000000) (disch := omega) only [go_sem, go_sem_proc, dr, Nat.min_def, ↓Nat.reduceBEq, ↓Nat.reduceEqDiff, ↓Nat.reduceLT, ↓Nat.reduceLeDiff, ↓Int.reduceEq, ↓Int.reduceLT, ↓Int.reduceLE, ↓reduceIte, hN, hz, h3, ncz, bb, if_true, if_false, Bool.false_eq_true]
    first | done | ((repeat' split) <;> (change _ = true; kernel_rfl))
  rcases Classical.propComplete (o.cols.length = 0) with h4 | h4
  rotate_left
  · simp -implicitDefEqProofs (maxSteps := 4000000) (disch := omega) only [go_sem, go_sem_proc, dr, Nat.min_def, ↓Nat.reduceBEq, ↓Nat.reduceEqDiff, ↓Nat.reduceLT, ↓Nat.reduceLeDiff, ↓Int.reduceEq, ↓Int.reduceLT, ↓Int.reduceLE, ↓reduceIte, hN, hz, h3, h4, ncz, bb, if_true, if_false, Bool.false_eq_true]
    first | done | ((repeat' split) <;> (change _ = true; kernel_rfl))
  rcases Classical.propComplete (o.group = 0) with g1 | g1 <;> rcases Classical.propComplete (o.aggs.length = 0) with g2 | g2 <;> simp -implicitDefEqProofs (maxSteps := 4000000) (disch := omega) only [go_sem, go_sem_proc, dr, Nat.min_def, ↓Nat.reduceBEq, ↓Nat.reduceEqDiff, ↓Nat.reduceLT, ↓Nat.reduceLeDiff, ↓Int.reduceEq, ↓Int.reduceLT, ↓Int.reduceLE, ↓reduceIte, hN, hz, h3, h4, g1, g2, ncz, bb, if_true, if_false, Bool.false_eq_true] <;> (first | done | ((repeat' split) <;> (change _ = true; kernel_rfl)))
theorem refnone_FTTFF {o : OpN} (hp : Sl o.pred) : dw E 28 [.agg [.int .i64 o.kind, sf o.rn 4 (o.row.map Val.pv), .int .i64 o.pred.kind, .int .i64 o.pred.col, .int .i64 o.pred.op, .bool o.pred.val.null, .int .i64 o.pred.val.kind, .int .i64 o.pred.val.int, bl o.pred.val.bytes, pl o.pred.nil o.pred.list, sf o.sn 6 (o.sets.map SetN.pv), sf o.cn 1 (o.cols.map intPV), .int .i64 o.group, sf o.an 2 (o.aggs.map AggN.pv)], .bool false, .bool true, .bool true, .bool false, .bool false] [] = some (.bool (bareO false true true false false o), []) := by
  have hN := refsame_spec hp
  clear hp
  unfold bareO
  have np : ∀ n : Nat, (0 < n) = ¬ (n = 0) := fun n => propext (by omega)
  simp only [np, decide_not]
  refine dw_in (fn := Try.f28) rfl body28 (by simp) ?_
  rcases Classical.propComplete (o.row.length = 0) with h1 | h1
  rotate_left
  · simp -implicitDefEqProofs (maxSteps := 4000000) (disch := omega) only [go_sem, go_sem_proc, dr, Nat.min_def, ↓Nat.reduceBEq, ↓Nat.reduceEqDiff, ↓Nat.reduceLT, ↓Nat.reduceLeDiff, ↓Int.reduceEq, ↓Int.reduceLT, ↓Int.reduceLE, ↓reduceIte, h1, ncz, bb, if_true, if_false, Bool.false_eq_true]
    first | done | ((repeat' split) <;> (change _ = true; kernel_rfl))
  rcases Classical.propComplete (o.cols.length = 0) with h4 | h4
  rotate_left
  · simp -implicitDefEqProofs (maxSteps := 4000000) (disch := omega) only [go_sem, go_sem_proc, dr, Nat.min_def, ↓Nat.reduceBEq, ↓Nat.reduceEqDiff, ↓Nat.reduceLT, ↓Nat.reduceLeDiff, ↓Int.reduceEq, ↓Int.reduceLT, ↓Int.reduceLE, ↓reduceIte, h1, h4, ncz, bb, if_true, if_false, Bool.false_eq_true]
    first | done | ((repeat' split) <;> (change _ = true; kernel_rfl))
  rcases Classical.propComplete (o.group = 0) with g1 | g1 <;> rcases Classical.propComplete (o.aggs.length = 0) with g2 | g2 <;> simp -implicitDefEqProofs (maxSteps := 4000000) (disch := omega) only [go_sem, go_sem_proc, dr, Nat.min_def, ↓Nat.reduceBEq, ↓Nat.reduceEqDiff, ↓Nat.reduceLT, ↓Nat.reduceLeDiff, ↓Int.reduceEq, ↓Int.reduceLT, ↓Int.reduceLE, ↓reduceIte, h1, h4, g1, g2, ncz, bb, if_true, if_false, Bool.false_eq_true] <;> (first | done | ((repeat' split) <;> (change _ = true; kernel_rfl)))
theorem refnone_FTFFF {o : OpN} (hp : Sl o.pred) : dw E 28 [.agg [.int .i64 o.kind, sf o.rn 4 (o.row.map Val.pv), .int .i64 o.pred.kind, .int .i64 o.pred.col, .int .i64 o.pred.op, .bool o.pred.val.null, .int .i64 o.pred.val.kind, .int .i64 o.pred.val.int, bl o.pred.val.bytes, pl o.pred.nil o.pred.list, sf o.sn 6 (o.sets.map SetN.pv), sf o.cn 1 (o.cols.map intPV), .int .i64 o.group, sf o.an 2 (o.aggs.map AggN.pv)], .bool false, .bool true, .bool false, .bool false, .bool false] [] = some (.bool (bareO false true false false false o), []) := by
  have hN := refsame_spec hp
  clear hp
  unfold bareO
  have np : ∀ n : Nat, (0 < n) = ¬ (n = 0) := fun n => propext (by omega)
  simp only [np, decide_not]
  refine dw_in (fn := Try.f28) rfl body28 (by simp) ?_
  rcases Classical.propComplete (o.row.length = 0) with h1 | h1
  rotate_left
  · simp -implicitDefEqProofs (maxSteps := 4000000) (disch := omega) only [go_sem, go_sem_proc, dr, Nat.min_def, ↓Nat.reduceBEq, ↓Nat.reduceEqDiff, ↓Nat.reduceLT, ↓Nat.reduceLeDiff, ↓Int.reduceEq, ↓Int.reduceLT, ↓Int.reduceLE, ↓reduceIte, h1, ncz, bb, if_true, if_false, Bool.false_eq_true]
    first | done | ((repeat' split) <;> (change _ = true; kernel_rfl))
  rcases Classical.propComplete (o.sets.length = 0) with h3 | h3
  rotate_left
  · simp -implicitDefEqProofs (maxSteps := 4000000) (disch := omega) only [go_sem, go_sem_proc, dr, Nat.min_def, ↓Nat.reduceBEq, ↓Nat.reduceEqDiff, ↓Nat.reduceLT, ↓Nat.reduceLeDiff, ↓Int.reduceEq, ↓Int.reduceLT, ↓Int.reduceLE, ↓reduceIte, h1, h3, ncz, bb, if_true, if_false, Bool.false_eq_true]
    first | done | ((repeat' split) <;> (change _ = true; kernel_rfl))
  rcases Classical.propComplete (o.cols.length = 0) with h4 | h4
  rotate_left
  · simp -implicitDefEqProofs (maxSteps := 4000000) (disch := omega) only [go_sem, go_sem_proc, dr, Nat.min_def, ↓Nat.reduceBEq, ↓Nat.reduceEqDiff, ↓Nat.reduceLT, ↓Nat.reduceLeDiff, ↓Int.reduceEq, ↓Int.reduceLT, ↓Int.reduceLE, ↓reduceIte, h1, h3, h4, ncz, bb, if_true, if_false, Bool.false_eq_true]
    first | done | ((repeat' split) <;> (change _ = true; kernel_rfl))
  rcases Classical.propComplete (o.group = 0) with g1 | g1 <;> rcases Classical.propComplete (o.aggs.length = 0) with g2 | g2 <;> simp -implicitDefEqProofs (maxSteps := 4000000) (disch := omega) only [go_sem, go_sem_proc, dr, Nat.min_def, ↓Nat.reduceBEq, ↓Nat.reduceEqDiff, ↓Nat.reduceLT, ↓Nat.reduceLeDiff, ↓Int.reduceEq, ↓Int.reduceLT, ↓Int.reduceLE, ↓reduceIte, h1, h3, h4, g1, g2, ncz, bb, if_true, if_false, Bool.false_eq_true] <;> (first | done | ((repeat' split) <;> (change _ = true; kernel_rfl)))
theorem refnone_FTFTF {o : OpN} (hp : Sl o.pred) : dw E 28 [.agg [.int .i64 o.kind, sf o.rn 4 (o.row.map Val.pv), .int .i64 o.pred.kind, .int .i64 o.pred.col, .int .i64 o.pred.op, .bool o.pred.val.null, .int .i64 o.pred.val.kind, .int .i64 o.pred.val.int, bl o.pred.val.bytes, pl o.pred.nil o.pred.list, sf o.sn 6 (o.sets.map SetN.pv), sf o.cn 1 (o.cols.map intPV), .int .i64 o.group, sf o.an 2 (o.aggs.map AggN.pv)], .bool false, .bool true, .bool false, .bool true, .bool false] [] = some (.bool (bareO false true false true false o), []) := by
  have hN := refsame_spec hp
  clear hp
  unfold bareO
  have np : ∀ n : Nat, (0 < n) = ¬ (n = 0) := fun n => propext (by omega)
  simp only [np, decide_not]
  refine dw_in (fn := Try.f28) rfl body28 (by simp) ?_
  rcases Classical.propComplete (o.row.length = 0) with h1 | h1
  rotate_left
  · simp -implicitDefEqProofs (maxSteps := 4000000) (disch := omega) only [go_sem, go_sem_proc, dr, Nat.min_def, ↓Nat.reduceBEq, ↓Nat.reduceEqDiff, ↓Nat.reduceLT, ↓Nat.reduceLeDiff, ↓Int.reduceEq, ↓Int.reduceLT, ↓Int.reduceLE, ↓reduceIte, h1, ncz, bb, if_true, if_false, Bool.false_eq_true]
    first | done | ((repeat' split) <;> (change _ = true; kernel_rfl))
  rcases Classical.propComplete (o.sets.length = 0) with h3 | h3
  rotate_left
  · simp -implicitDefEqProofs (maxSteps := 4000000) (disch := omega) only [go_sem, go_sem_proc, dr, Nat.min_def, ↓Nat.reduceBEq, ↓Nat.reduceEqDiff, ↓Nat.reduceLT, ↓Nat.reduceLeDiff, ↓Int.reduceEq, ↓Int.reduceLT, ↓Int.reduceLE, ↓reduceIte, h1, h3, ncz, bb, if_true, if_false, Bool.false_eq_true]
    first | done | ((repeat' split) <;> (change _ = true; kernel_rfl))
  rcases Classical.propComplete (o.group = 0) with g1 | g1 <;> rcases Classical.propComplete (o.aggs.length = 0) with g2 | g2 <;> simp -implicitDefEqProofs (maxSteps := 4000000) (disch := omega) only [go_sem, go_sem_proc, dr, Nat.min_def, ↓Nat.reduceBEq, ↓Nat.reduceEqDiff, ↓Nat.reduceLT, ↓Nat.reduceLeDiff, ↓Int.reduceEq, ↓Int.reduceLT, ↓Int.reduceLE, ↓reduceIte, h1, h3, g1, g2, ncz, bb, if_true, if_false, Bool.false_eq_true] <;> (first | done | ((repeat' split) <;> (change _ = true; kernel_rfl)))
theorem refnone_FTFFT {o : OpN} (hp : Sl o.pred) : dw E 28 [.agg [.int .i64 o.kind, sf o.rn 4 (o.row.map Val.pv), .int .i64 o.pred.kind, .int .i64 o.pred.col, .int .i64 o.pred.op, .bool o.pred.val.null, .int .i64 o.pred.val.kind, .int .i64 o.pred.val.int, bl o.pred.val.bytes, pl o.pred.nil o.pred.list, sf o.sn 6 (o.sets.map SetN.pv), sf o.cn 1 (o.cols.map intPV), .int .i64 o.group, sf o.an 2 (o.aggs.map AggN.pv)], .bool false, .bool true, .bool false, .bool false, .bool true] [] = some (.bool (bareO false true false false true o), []) := by
  have hN := refsame_spec hp
  clear hp
  unfold bareO
  have np : ∀ n : Nat, (0 < n) = ¬ (n = 0) := fun n => propext (by omega)
  simp only [np, decide_not]
  refine dw_in (fn := Try.f28) rfl body28 (by simp) ?_
  rcases Classical.propComplete (o.row.length = 0) with h1 | h1
  rotate_left
  · simp -implicitDefEqProofs (maxSteps := 4000000) (disch := omega) only [go_sem, go_sem_proc, dr, Nat.min_def, ↓Nat.reduceBEq, ↓Nat.reduceEqDiff, ↓Nat.reduceLT, ↓Nat.reduceLeDiff, ↓Int.reduceEq, ↓Int.reduceLT, ↓Int.reduceLE, ↓reduceIte, h1, ncz, bb, if_true, if_false, Bool.false_eq_true]
    first | done | ((repeat' split) <;> (change _ = true; kernel_rfl))
  rcases Classical.propComplete (o.sets.length = 0) with h3 | h3
  rotate_left
  · simp -implicitDefEqProofs (maxSteps := 4000000) (disch := omega) only [go_sem, go_sem_proc, dr, Nat.min_def, ↓Nat.reduceBEq, ↓Nat.reduceEqDiff, ↓Nat.reduceLT, ↓Nat.reduceLeDiff, ↓Int.reduceEq, ↓Int.reduceLT, ↓Int.reduceLE, ↓reduceIte, h1, h3, ncz, bb, if_true, if_false, Bool.false_eq_true]
    first | done | ((repeat' split) <;> (change _ = true; kernel_rfl))
  rcases Classical.propComplete (o.cols.length = 0) with h4 | h4
  rotate_left
  · simp -implicitDefEqProofs (maxSteps := 4000000) (disch := omega) only [go_sem, go_sem_proc, dr, Nat.min_def, ↓Nat.reduceBEq, ↓Nat.reduceEqDiff, ↓Nat.reduceLT, ↓Nat.reduceLeDiff, ↓Int.reduceEq, ↓Int.reduceLT, ↓Int.reduceLE, ↓reduceIte, h1, h3, h4, ncz, bb, if_true, if_false, Bool.false_eq_true]
    first | done | ((repeat' split) <;> (change _ = true; kernel_rfl))
  simp -implicitDefEqProofs (maxSteps := 4000000) (disch := omega) only [go_sem, go_sem_proc, dr, Nat.min_def, ↓Nat.reduceBEq, ↓Nat.reduceEqDiff, ↓Nat.reduceLT, ↓Nat.reduceLeDiff, ↓Int.reduceEq, ↓Int.reduceLT, ↓Int.reduceLE, ↓reduceIte, h1, h3, h4, ncz, bb, if_true, if_false, Bool.false_eq_true]
  first | done | ((repeat' split) <;> (change _ = true; kernel_rfl))
theorem refnone_FFFFF {o : OpN} (hp : Sl o.pred) : dw E 28 [.agg [.int .i64 o.kind, sf o.rn 4 (o.row.map Val.pv), .int .i64 o.pred.kind, .int .i64 o.pred.col, .int .i64 o.pred.op, .bool o.pred.val.null, .int .i64 o.pred.val.kind, .int .i64 o.pred.val.int, bl o.pred.val.bytes, pl o.pred.nil o.pred.list, sf o.sn 6 (o.sets.map SetN.pv), sf o.cn 1 (o.cols.map intPV), .int .i64 o.group, sf o.an 2 (o.aggs.map AggN.pv)], .bool false, .bool false, .bool false, .bool false, .bool false] [] = some (.bool (bareO false false false false false o), []) := by
  have hN := refsame_spec hp
  clear hp
  unfold bareO
  have np : ∀ n : Nat, (0 < n) = ¬ (n = 0) := fun n => propext (by omega)
  simp only [np, decide_not]
  refine dw_in (fn := Try.f28) rfl body28 (by simp) ?_
  rcases Classical.propComplete (o.row.length = 0) with h1 | h1
  rotate_left
  · simp -implicitDefEqProofs (maxSteps := 4000000) (disch := omega) only [go_sem, go_sem_proc, dr, Nat.min_def, ↓Nat.reduceBEq, ↓Nat.reduceEqDiff, ↓Nat.reduceLT, ↓Nat.reduceLeDiff, ↓Int.reduceEq, ↓Int.reduceLT, ↓Int.reduceLE, ↓reduceIte, h1, ncz, bb, if_true, if_false, Bool.false_eq_true]
    first | done | ((repeat' split) <;> (change _ = true; kernel_rfl))
  rcases hz : sameZ o.pred with _ | _
  · rw [hz] at hN
    simp -implicitDefEqProofs (maxSteps := 4000000) (disch := omega) only [go_sem, go_sem_proc, dr, Nat.min_def, ↓Nat.reduceBEq, ↓Nat.reduceEqDiff, ↓Nat.reduceLT, ↓Nat.reduceLeDiff, ↓Int.reduceEq, ↓Int.reduceLT, ↓Int.reduceLE, ↓reduceIte, h1, hN, hz, ncz, bb, if_true, if_false, Bool.false_eq_true]
    first | done | ((repeat' split) <;> (change _ = true; kernel_rfl))
  rw [hz] at hN
  rcases Classical.propComplete (o.sets.length = 0) with h3 | h3
  rotate_left
  · simp -implicitDefEqProofs (maxSteps := 4000000) (disch := omega) only [go_sem, go_sem_proc, dr, Nat.min_def, ↓Nat.reduceBEq, ↓Nat.reduceEqDiff, ↓Nat.reduceLT, ↓Nat.reduceLeDiff, ↓Int.reduceEq, ↓Int.reduceLT, ↓Int.reduceLE, ↓reduceIte, h1, hN, hz, h3, ncz, bb, if_true, if_false, Bool.false_eq_true]
    first | done | ((repeat' split) <;> (change _ = true; kernel_rfl))
  rcases Classical.propComplete (o.cols.length = 0) with h4 | h4
  rotate_left
  · simp -implicitDefEqProofs (maxSteps := 4000000) (disch := omega) only [go_sem, go_sem_proc, dr, Nat.min_def, ↓Nat.reduceBEq, ↓Nat.reduceEqDiff, ↓Nat.reduceLT, ↓Nat.reduceLeDiff, ↓Int.reduceEq, ↓Int.reduceLT, ↓Int.reduceLE, ↓reduceIte, h1, hN, hz, h3, h4, ncz, bb, if_true, if_false, Bool.false_eq_true]
    first | done | ((repeat' split) <;> (change _ = true; kernel_rfl))
  rcases Classical.propComplete (o.group = 0) with g1 | g1 <;> rcases Classical.propComplete (o.aggs.length = 0) with g2 | g2 <;> simp -implicitDefEqProofs (maxSteps := 4000000) (disch := omega) only [go_sem, go_sem_proc, dr, Nat.min_def, ↓Nat.reduceBEq, ↓Nat.reduceEqDiff, ↓Nat.reduceLT, ↓Nat.reduceLeDiff, ↓Int.reduceEq, ↓Int.reduceLT, ↓Int.reduceLE, ↓reduceIte, h1, hN, hz, h3, h4, g1, g2, ncz, bb, if_true, if_false, Bool.false_eq_true] <;> (first | done | ((repeat' split) <;> (change _ = true; kernel_rfl)))
theorem holds_ref (c : Col) (v : Val) : holds c v = (valueB c.kind v && !(v.null && !c.null)) := by
  rw [value_isV]
  unfold holds
  cases isV v <;> cases decide (v.kind = c.kind) <;> cases c.null <;> cases v.null <;> rfl
theorem Fits_ref {s : List Col} {n : Bool} {r : List Val} (hs : s.length ≤ 20) (hb : ∀ v ∈ r, (bz v.bytes).length ≤ 9223372036854775807) : dw E 29 [.agg [.sl 3 (s.map Col.pv)], sf n 4 (r.map Val.pv)] [] = some (.bool (fits s r), []) := by
  refine dw_in (fn := Try.f29) rfl body29 (by simp) ?_
  unfold fits
  by_cases hl : r.length = s.length
  · have el : ((r.length : Int) = s.length) = True := eq_true (by omega)
    have el' : ((s.length : Int) = r.length) = True := eq_true (by omega)
    have hl' := eq_true hl
    simp -implicitDefEqProofs (maxSteps := 4000000) (disch := omega) only [go_sem, go_sem_proc, dr, Nat.min_def, ↓Nat.reduceBEq, ↓Nat.reduceEqDiff, ↓Nat.reduceLT, ↓Nat.reduceLeDiff, ↓Int.reduceEq, ↓Int.reduceLT, ↓Int.reduceLE, ↓reduceIte, el, el', hl', hl, decide_true]
    refine runs_any (fun i : Nat => (⟨[(1, sf n 4 (r.map Val.pv)), (2, .pb 1048578 0), (5, .int .i64 i)], [(1048578, some ⟨true, .box [.sl 3 (s.map Col.pv)]⟩)], 1⟩ : St)) (fun i => s.length - i) 0
      (fun i => i ≤ s.length ∧ (List.zipWith holds (s.take i) (r.take i)).all id = true) ⟨by omega, by simp⟩ ?_ ?_
    · simp -implicitDefEqProofs (maxSteps := 4000000) (disch := omega) only [go_sem, go_sem_proc, dr, Nat.min_def, ↓Nat.reduceBEq, ↓Nat.reduceEqDiff, ↓Nat.reduceLT, ↓Nat.reduceLeDiff, ↓Int.reduceEq, ↓Int.reduceLT, ↓Int.reduceLE, ↓reduceIte]
    · rintro i ⟨hi, ht⟩
      by_cases hlt : i < s.length
      · obtain ⟨c, hc, _, _⟩ := take_get hlt
        obtain ⟨v, hv, hvm, _⟩ := take_get (show i < r.length by omega)
        have hg : sf n 4 (r.map Val.pv) = .sl 4 (r.map Val.pv) := sf_get (i := i) (by rw [List.length_map]; omega)
        have hV := Value_ref (kind := c.kind) (hb v hvm)
        have hlr : (i : Int) < r.length := by omega
        have hH := holds_ref c v
        clear hb el el' hl'
        cases hh : holds c v with
        | true =>
          have hz := zip_take holds hc hv
          rw [ht, hh] at hz
          rw [hh] at hH
          cases q1 : valueB c.kind v <;> rw [q1] at hH hV
          · cases hH
          · cases q2 : v.null <;> cases q3 : c.null <;> rw [q2, q3] at hH <;> rw [q2] at hV
            · simp -implicitDefEqProofs (maxSteps := 4000000) (disch := omega) only [go_sem, go_sem_proc, dr, Nat.min_def, ↓Nat.reduceBEq, ↓Nat.reduceEqDiff, ↓Nat.reduceLT, ↓Nat.reduceLeDiff, ↓Int.reduceEq, ↓Int.reduceLT, ↓Int.reduceLE, ↓reduceIte, hc, hv, hg, hV, q2, q3]
              first | exact ⟨i + 1, rfl, ⟨hlt, hz⟩, by omega⟩ | exact ⟨by ((repeat' split) <;> (change _ = true; kernel_rfl)), i + 1, rfl, ⟨hlt, hz⟩, by omega⟩
            · simp -implicitDefEqProofs (maxSteps := 4000000) (disch := omega) only [go_sem, go_sem_proc, dr, Nat.min_def, ↓Nat.reduceBEq, ↓Nat.reduceEqDiff, ↓Nat.reduceLT, ↓Nat.reduceLeDiff, ↓Int.reduceEq, ↓Int.reduceLT, ↓Int.reduceLE, ↓reduceIte, hc, hv, hg, hV, q2, q3]
              first | exact ⟨i + 1, rfl, ⟨hlt, hz⟩, by omega⟩ | exact ⟨by ((repeat' split) <;> (change _ = true; kernel_rfl)), i + 1, rfl, ⟨hlt, hz⟩, by omega⟩
            · cases hH
            · simp -implicitDefEqProofs (maxSteps := 4000000) (disch := omega) only [go_sem, go_sem_proc, dr, Nat.min_def, ↓Nat.reduceBEq, ↓Nat.reduceEqDiff, ↓Nat.reduceLT, ↓Nat.reduceLeDiff, ↓Int.reduceEq, ↓Int.reduceLT, ↓Int.reduceLE, ↓reduceIte, hc, hv, hg, hV, q2, q3]
              first | exact ⟨i + 1, rfl, ⟨hlt, hz⟩, by omega⟩ | exact ⟨by ((repeat' split) <;> (change _ = true; kernel_rfl)), i + 1, rfl, ⟨hlt, hz⟩, by omega⟩
        | false =>
          have hf := zip_false holds hc hv hh
          rw [hh] at hH
          rw [hf]
          cases q1 : valueB c.kind v <;> rw [q1] at hH hV
          · simp -implicitDefEqProofs (maxSteps := 4000000) (disch := omega) only [go_sem, go_sem_proc, dr, Nat.min_def, ↓Nat.reduceBEq, ↓Nat.reduceEqDiff, ↓Nat.reduceLT, ↓Nat.reduceLeDiff, ↓Int.reduceEq, ↓Int.reduceLT, ↓Int.reduceLE, ↓reduceIte, hc, hv, hg, hV]
            first | done | ((repeat' split) <;> (change _ = true; kernel_rfl))
          · cases q2 : v.null <;> cases q3 : c.null <;> rw [q2, q3] at hH <;> rw [q2] at hV
            · cases hH
            · cases hH
            · simp -implicitDefEqProofs (maxSteps := 4000000) (disch := omega) only [go_sem, go_sem_proc, dr, Nat.min_def, ↓Nat.reduceBEq, ↓Nat.reduceEqDiff, ↓Nat.reduceLT, ↓Nat.reduceLeDiff, ↓Int.reduceEq, ↓Int.reduceLT, ↓Int.reduceLE, ↓reduceIte, hc, hv, hg, hV, q2, q3]
              first | done | ((repeat' split) <;> (change _ = true; kernel_rfl))
            · cases hH
      · rw [List.take_of_length_le (by omega), List.take_of_length_le (by omega)] at ht
        rw [ht]
        have hlr : (r.length : Int) ≤ i := by omega
        clear hb el el' hl'
        simp -implicitDefEqProofs (maxSteps := 4000000) (disch := omega) only [go_sem, go_sem_proc, dr, Nat.min_def, ↓Nat.reduceBEq, ↓Nat.reduceEqDiff, ↓Nat.reduceLT, ↓Nat.reduceLeDiff, ↓Int.reduceEq, ↓Int.reduceLT, ↓Int.reduceLE, ↓reduceIte]
        first | done | ((repeat' split) <;> (change _ = true; kernel_rfl))
  · have el : ((r.length : Int) = s.length) = False := eq_false (by omega)
    have el' : ((s.length : Int) = r.length) = False := eq_false (by omega)
    simp -implicitDefEqProofs (maxSteps := 4000000) (disch := omega) only [go_sem, go_sem_proc, dr, Nat.min_def, ↓Nat.reduceBEq, ↓Nat.reduceEqDiff, ↓Nat.reduceLT, ↓Nat.reduceLeDiff, ↓Int.reduceEq, ↓Int.reduceLT, ↓Int.reduceLE, ↓reduceIte, el, el', hl, decide_false, Bool.false_and]
theorem aggB_ref (s : List Col) (a : AggN) (h1 : 1 ≤ s.length) : aggB s a = (decide (1 ≤ a.kind) && (decide (a.kind ≤ 4) && (!(decide (a.kind = 1) && !decide (a.col = 0)) && (inB s a.col && !(decide (a.kind = 2) && !decide (kindAt s a.col = 1)))))) := by
  obtain ⟨k, c⟩ := a
  unfold aggB
  dsimp only
  by_cases k1 : k = 1
  · subst k1
    by_cases hc : c = 0
    · subst hc
      have : inB s 0 = true := by unfold inB; simp; omega
      simp [this]
    · simp [hc]
  · by_cases k2 : k = 2
    · subst k2
      simp
    · by_cases k3 : k = 3
      · subst k3; simp
      · by_cases k4 : k = 4
        · subst k4; simp
        · simp [k1, k2, k3, k4]
          intro h1 h2
          omega
theorem refaggs_spec {s : List Col} {n : Bool} {l : List AggN} (hs : s.length ≤ 20) (hs1 : 1 ≤ s.length) (hl : l.length ≤ 9223372036854775807) : dw E 32 [.agg [.sl 3 (s.map Col.pv)], sf n 2 (l.map AggN.pv)] [] = some (.bool (aggsB s l), []) := by
  unfold aggsB
  refine dw_in (fn := Try.f32) rfl body32 (by simp) ?_
  simp -implicitDefEqProofs (maxSteps := 4000000) (disch := omega) only [go_sem, go_sem_proc, dr, Nat.min_def, ↓Nat.reduceBEq, ↓Nat.reduceEqDiff, ↓Nat.reduceLT, ↓Nat.reduceLeDiff, ↓Int.reduceEq, ↓Int.reduceLT, ↓Int.reduceLE, ↓reduceIte]
  refine runs_any (fun i : Nat => (⟨[(1, sf n 2 (l.map AggN.pv)), (2, .pb 1048578 0), (5, .int .i64 i)], [(1048578, some ⟨true, .box [.sl 3 (s.map Col.pv)]⟩)], 1⟩ : St)) (fun i => l.length - i) 0
    (fun i => i ≤ l.length ∧ (l.any fun a => !aggB s a) = ((l.drop i).any fun a => !aggB s a)) ⟨Nat.zero_le _, rfl⟩ ?_ ?_
  · simp -implicitDefEqProofs (maxSteps := 4000000) (disch := omega) only [go_sem, go_sem_proc, dr, Nat.min_def, ↓Nat.reduceBEq, ↓Nat.reduceEqDiff, ↓Nat.reduceLT, ↓Nat.reduceLeDiff, ↓Int.reduceEq, ↓Int.reduceLT, ↓Int.reduceLE, ↓reduceIte]
  · rintro i ⟨hi, he⟩
    by_cases hlt : i < l.length
    · obtain ⟨a, hx, _, _⟩ := take_get hlt
      have hd : l.drop i = a :: l.drop (i + 1) := by rw [List.drop_eq_getElem_cons hlt, (List.getElem?_eq_some_iff.1 hx).2]
      have hg : sf n 2 (l.map AggN.pv) = .sl 2 (l.map AggN.pv) := sf_get (i := i) (by rw [List.length_map]; exact hlt)
      rw [hd, List.any_cons, aggB_ref s a hs1] at he
      have hC := refcol_spec (s := s) (c := a.col) hs
      clear hd
      rcases Int.lt_or_le a.kind 1 with k1 | k1
      · rw [decide_eq_false (by omega)] at he
        simp only [bb] at he
        rw [he]
        simp -implicitDefEqProofs (maxSteps := 4000000) (disch := omega) only [go_sem, go_sem_proc, dr, Nat.min_def, ↓Nat.reduceBEq, ↓Nat.reduceEqDiff, ↓Nat.reduceLT, ↓Nat.reduceLeDiff, ↓Int.reduceEq, ↓Int.reduceLT, ↓Int.reduceLE, ↓reduceIte, hx, hg, AggN.pv, hC, bb]
        first | done | ((repeat' split) <;> (change _ = true; kernel_rfl))
      rcases Int.lt_or_le 4 a.kind with k4 | k4
      · rw [decide_eq_false (by omega : ¬ a.kind ≤ 4)] at he
        simp only [bb] at he
        rw [he]
        simp -implicitDefEqProofs (maxSteps := 4000000) (disch := omega) only [go_sem, go_sem_proc, dr, Nat.min_def, ↓Nat.reduceBEq, ↓Nat.reduceEqDiff, ↓Nat.reduceLT, ↓Nat.reduceLeDiff, ↓Int.reduceEq, ↓Int.reduceLT, ↓Int.reduceLE, ↓reduceIte, hx, hg, AggN.pv, hC, bb]
        first | done | ((repeat' split) <;> (change _ = true; kernel_rfl))
      rw [decide_eq_true k1, decide_eq_true k4] at he
      by_cases hk1 : a.kind = 1
      · by_cases hc0 : a.col = 0
        · have hin : inB s a.col = true := by rw [hc0]; unfold inB; simp; omega
          rw [hin] at hC he
          rw [decide_eq_true hk1, decide_eq_true hc0, decide_eq_false (by omega : ¬ a.kind = 2)] at he
          simp only [bb] at he
          rw [hc0] at hC
          simp -implicitDefEqProofs (maxSteps := 4000000) (disch := omega) only [go_sem, go_sem_proc, dr, Nat.min_def, ↓Nat.reduceBEq, ↓Nat.reduceEqDiff, ↓Nat.reduceLT, ↓Nat.reduceLeDiff, ↓Int.reduceEq, ↓Int.reduceLT, ↓Int.reduceLE, ↓reduceIte, hx, hg, AggN.pv, hC, hk1, hc0, bb]
          first | exact ⟨i + 1, rfl, ⟨hlt, he⟩, by omega⟩ | exact ⟨by ((repeat' split) <;> (change _ = true; kernel_rfl)), i + 1, rfl, ⟨hlt, he⟩, by omega⟩
        · rw [decide_eq_true hk1, decide_eq_false hc0] at he
          simp only [bb] at he
          rw [he]
          have hc0 := eq_false hc0
          simp -implicitDefEqProofs (maxSteps := 4000000) (disch := omega) only [go_sem, go_sem_proc, dr, Nat.min_def, ↓Nat.reduceBEq, ↓Nat.reduceEqDiff, ↓Nat.reduceLT, ↓Nat.reduceLeDiff, ↓Int.reduceEq, ↓Int.reduceLT, ↓Int.reduceLE, ↓reduceIte, hx, hg, AggN.pv, hC, hk1, hc0, bb]
          first | done | ((repeat' split) <;> (change _ = true; kernel_rfl))
      · have hk2 : 2 ≤ a.kind := by omega
        have hk1' := eq_false hk1
        rw [decide_eq_false hk1] at he
        cases hin : inB s a.col with
        | false =>
          rw [hin] at hC he
          simp only [bb] at he
          rw [he]
          clear hk1
          simp -implicitDefEqProofs (maxSteps := 4000000) (disch := omega) only [go_sem, go_sem_proc, dr, Nat.min_def, ↓Nat.reduceBEq, ↓Nat.reduceEqDiff, ↓Nat.reduceLT, ↓Nat.reduceLeDiff, ↓Int.reduceEq, ↓Int.reduceLT, ↓Int.reduceLE, ↓reduceIte, hx, hg, AggN.pv, hC, hk1', bb]
          first | done | ((repeat' split) <;> (change _ = true; kernel_rfl))
        | true =>
          obtain ⟨j, q, hj, hjl, hq, hka⟩ := col_at hin
          rw [hin] at hC he
          rw [hka] at he
          rw [hj] at hC
          by_cases h2 : a.kind = 2
          · rcases Classical.propComplete (q.kind = 1) with hq1 | hq1
            · rw [decide_eq_true h2] at he
              simp only [hq1, bb] at he
              clear hk1
              simp -implicitDefEqProofs (maxSteps := 4000000) (disch := omega) only [go_sem, go_sem_proc, dr, Nat.min_def, ↓Nat.reduceBEq, ↓Nat.reduceEqDiff, ↓Nat.reduceLT, ↓Nat.reduceLeDiff, ↓Int.reduceEq, ↓Int.reduceLT, ↓Int.reduceLE, ↓reduceIte, hx, hg, AggN.pv, hC, h2, hj, hq, hq1, bb]
              first | exact ⟨i + 1, rfl, ⟨hlt, he⟩, by omega⟩ | exact ⟨by ((repeat' split) <;> (change _ = true; kernel_rfl)), i + 1, rfl, ⟨hlt, he⟩, by omega⟩
            · rw [decide_eq_true h2] at he
              simp only [hq1, bb] at he
              rw [he]
              clear hk1
              simp -implicitDefEqProofs (maxSteps := 4000000) (disch := omega) only [go_sem, go_sem_proc, dr, Nat.min_def, ↓Nat.reduceBEq, ↓Nat.reduceEqDiff, ↓Nat.reduceLT, ↓Nat.reduceLeDiff, ↓Int.reduceEq, ↓Int.reduceLT, ↓Int.reduceLE, ↓reduceIte, hx, hg, AggN.pv, hC, h2, hj, hq, hq1, bb]
              first | done | ((repeat' split) <;> (change _ = true; kernel_rfl))
          · have h2' := eq_false h2
            rw [decide_eq_false h2] at he
            simp only [bb] at he
            clear hk1 h2
            simp -implicitDefEqProofs (maxSteps := 4000000) (disch := omega) only [go_sem, go_sem_proc, dr, Nat.min_def, ↓Nat.reduceBEq, ↓Nat.reduceEqDiff, ↓Nat.reduceLT, ↓Nat.reduceLeDiff, ↓Int.reduceEq, ↓Int.reduceLT, ↓Int.reduceLE, ↓reduceIte, hx, hg, AggN.pv, hC, hk1', h2', hj, hq, bb]
            first | exact ⟨i + 1, rfl, ⟨hlt, he⟩, by omega⟩ | exact ⟨by ((repeat' split) <;> (change _ = true; kernel_rfl)), i + 1, rfl, ⟨hlt, he⟩, by omega⟩
    · have hd : l.drop i = [] := List.drop_eq_nil_of_le (by omega)
      rw [hd, List.any_nil] at he
      rw [he]
      have hi' : i = l.length := by omega
      subst hi'
      rcases Classical.propComplete (1 ≤ l.length) with h1 | h1 <;> rcases Classical.propComplete (l.length ≤ 4) with h2 | h2 <;> simp -implicitDefEqProofs (maxSteps := 4000000) (disch := omega) only [go_sem, go_sem_proc, dr, Nat.min_def, ↓Nat.reduceBEq, ↓Nat.reduceEqDiff, ↓Nat.reduceLT, ↓Nat.reduceLeDiff, ↓Int.reduceEq, ↓Int.reduceLT, ↓Int.reduceLE, ↓reduceIte, nc1, nc4, h1, h2, bb] <;> (first | done | ((repeat' split) <;> (change _ = true; kernel_rfl)))
end Go.Proofs.Ytgbeijemcojnpaa.D
