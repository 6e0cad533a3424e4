/- What expr says of sets, and whether an op is bare. -/
import Derived.Test.YtgbeijemcojnpaaExpr2
namespace Go.Proofs.Ytgbeijemcojnpaa.D
open Go Go.Den
set_option linter.unusedSimpArgs false
set_option linter.unusedVariables false
set_option maxRecDepth 20000
set_option maxHeartbeats 8000000
theorem nc0 (n : Nat) : ((0 : Int) < (n : Int)) = (0 < n) := propext (by omega)
theorem nc1 (n : Nat) : ((1 : Int) ≤ (n : Int)) = (1 ≤ n) := propext (by omega)
theorem nc4 (n : Nat) : ((n : Int) ≤ 4) = (n ≤ 4) := propext (by omega)
theorem nc6 (n : Nat) : ((n : Int) ≤ 6) = (n ≤ 6) := propext (by omega)
theorem ncz (n : Nat) : ((n : Int) = 0) = (n = 0) := propext (by omega)
def setsR (s : List Col) : List SetN → List SetN → Bool
  | _, [] => true
  | pre, x :: r => (setB s x && !pre.any fun y => decide (y.col = x.col)) && setsR s (pre ++ [x]) r
def setsB (s : List Col) (l : List SetN) : Bool := setsR s [] l && (decide (1 ≤ l.length) && decide (l.length ≤ 4))
theorem sets_spec {s : List Col} {n : Bool} {l : List SetN} (hs : s.length ≤ 20) (hl : l.length ≤ 9223372036854775807) : dw E 20 [.agg [.sl 3 (s.map Col.pv)], sf n 6 (l.map SetN.pv)] [] = some (.bool (setsB s l), []) := by
  unfold setsB
  refine dw_in (fn := Try.f20) rfl body20 (by simp) ?_
  simp -implicitDefEqProofs (maxSteps := 4000000) (disch := omega) only [go_sem, go_sem_proc, dr, Nat.min_def, ↓Nat.reduceBEq, ↓Nat.reduceEqDiff, ↓Nat.reduceLT, ↓Nat.reduceLeDiff, ↓Int.reduceEq, ↓Int.reduceLT, ↓Int.reduceLE, ↓reduceIte]
  refine runs_any (fun i : Nat => (⟨[(1, sf n 6 (l.map SetN.pv)), (2, .pb 1048578 0), (8, sf n 6 (l.map SetN.pv)), (9, .int .i64 l.length), (10, .int .i64 i)], [(1048578, some ⟨true, .box [.sl 3 (s.map Col.pv)]⟩)], 1⟩ : St)) (fun i => l.length - i) 0 (fun i => i ≤ l.length ∧ setsR s [] l = setsR s (l.take i) (l.drop i)) ⟨Nat.zero_le _, rfl⟩ ?_ ?_
  · simp -implicitDefEqProofs (maxSteps := 4000000) (disch := omega) only [go_sem, go_sem_proc, dr, Nat.min_def, ↓Nat.reduceBEq, ↓Nat.reduceEqDiff, ↓Nat.reduceLT, ↓Nat.reduceLeDiff, ↓Int.reduceEq, ↓Int.reduceLT, ↓Int.reduceLE, ↓reduceIte]
  · rintro i ⟨hi, he⟩
    by_cases hlt : i < l.length
    · obtain ⟨x, hx, _, hty⟩ := take_get hlt
      have hd : l.drop i = x :: l.drop (i + 1) := by rw [List.drop_eq_getElem_cons hlt, (List.getElem?_eq_some_iff.1 hx).2]
      rw [hd, setsR, ← hty] at he
      have hg : sf n 6 (l.map SetN.pv) = .sl 6 (l.map SetN.pv) := sf_get (i := i) (by rw [List.length_map]; exact hlt)
      have hP := set_spec (s := s) (x := x) hs
      have hC := Contains_set (n := false) (L := l.take i) (C := [.int .i64 x.col, .bool x.add, .bool x.val.null, .int .i64 x.val.kind, .int .i64 x.val.int, bl x.val.bytes]) (φ := fun y => decide (y.col = x.col)) (by rw [List.length_take]; omega) (fun y _ => same_set)
      rw [show sf false 6 ((l.take i).map SetN.pv) = .sl 6 ((l.map SetN.pv).take i) by rw [List.map_take]; rfl] at hC
      clear hd hty
      cases h1 : setB s x with
      | false =>
        rw [h1] at hP he
        rw [Bool.false_and, Bool.false_and] at he
        obtain ⟨b, hb⟩ : ∃ b, ((l.take i).any fun y => decide (y.col = x.col)) = b := ⟨_, rfl⟩
        rw [hb] at hC
        rw [he]
        cases b <;> simp -implicitDefEqProofs (maxSteps := 4000000) (disch := omega) only [go_sem, go_sem_proc, dr, Nat.min_def, ↓Nat.reduceBEq, ↓Nat.reduceEqDiff, ↓Nat.reduceLT, ↓Nat.reduceLeDiff, ↓Int.reduceEq, ↓Int.reduceLT, ↓Int.reduceLE, ↓reduceIte, hx, hg, SetN.pv, hP, hC, Bool.false_and] <;> (first | done | ((repeat' split) <;> (change _ = true; kernel_rfl)))
      | true =>
        rw [h1] at hP he
        cases hb : ((l.take i).any fun y => decide (y.col = x.col)) with
        | true =>
          rw [hb] at hC he
          rw [Bool.not_true, Bool.and_false, Bool.false_and] at he
          rw [he]
          simp -implicitDefEqProofs (maxSteps := 4000000) (disch := omega) only [go_sem, go_sem_proc, dr, Nat.min_def, ↓Nat.reduceBEq, ↓Nat.reduceEqDiff, ↓Nat.reduceLT, ↓Nat.reduceLeDiff, ↓Int.reduceEq, ↓Int.reduceLT, ↓Int.reduceLE, ↓reduceIte, hx, hg, SetN.pv, hP, hC, Bool.false_and]
          first | done | ((repeat' split) <;> (change _ = true; kernel_rfl))
        | false =>
          rw [hb] at hC he
          rw [Bool.not_false, Bool.true_and, Bool.true_and] at he
          simp -implicitDefEqProofs (maxSteps := 4000000) (disch := omega) only [go_sem, go_sem_proc, dr, Nat.min_def, ↓Nat.reduceBEq, ↓Nat.reduceEqDiff, ↓Nat.reduceLT, ↓Nat.reduceLeDiff, ↓Int.reduceEq, ↓Int.reduceLT, ↓Int.reduceLE, ↓reduceIte, hx, hg, SetN.pv, hP, hC]
          first | exact ⟨i + 1, rfl, ⟨hlt, he⟩, by omega⟩ | (refine ⟨?_, i + 1, rfl, ⟨hlt, he⟩, by omega⟩; ((repeat' split) <;> (change _ = true; kernel_rfl)))
    · have hd : l.drop i = [] := List.drop_eq_nil_of_le (by omega)
      rw [hd, setsR] at he
      rw [he]
      have hi' : i = l.length := by omega
      subst hi'
      rcases Classical.propComplete (1 ≤ l.length) with h1 | h1 <;> rcases Classical.propComplete (l.length ≤ 4) with h2 | h2 <;> simp -implicitDefEqProofs (maxSteps := 4000000) (disch := omega) only [go_sem, go_sem_proc, dr, Nat.min_def, ↓Nat.reduceBEq, ↓Nat.reduceEqDiff, ↓Nat.reduceLT, ↓Nat.reduceLeDiff, ↓Int.reduceEq, ↓Int.reduceLT, ↓Int.reduceLE, ↓reduceIte, nc1, nc4, h1, h2, decide_true, decide_false, Bool.true_and, Bool.false_and, Bool.and_true, Bool.and_false] <;> (first | done | ((repeat' split) <;> (change _ = true; kernel_rfl)))
/-- whether an op has nothing but what is let -/
def bareO (row asks sets cols aggs : Bool) (o : OpN) : Bool :=
  if (!row && decide (0 < o.row.length)) || ((!asks && !sameZ o.pred) || ((!sets && decide (0 < o.sets.length)) || (!cols && decide (0 < o.cols.length)))) then false
  else aggs || (decide (o.group = 0) && decide (o.aggs.length = 0))
theorem bare_TFFFF {o : OpN} : dw E 17 [.agg [.int .i64 o.kind, sf o.rn 4 (o.row.map Val.pv), .int .i64 o.pred.kind, .int .i64 o.pred.col, .int .i64 o.pred.op, .bool o.pred.val.null, .int .i64 o.pred.val.kind, .int .i64 o.pred.val.int, bl o.pred.val.bytes, pl o.pred.nil o.pred.list, sf o.sn 6 (o.sets.map SetN.pv), sf o.cn 1 (o.cols.map intPV), .int .i64 o.group, sf o.an 2 (o.aggs.map AggN.pv)], .bool true, .bool false, .bool false, .bool false, .bool false] [] = some (.bool (bareO true false false false false o), []) := by
  have hN := nonex_spec (p := o.pred)
  unfold bareO
  refine dw_in (fn := Try.f17) rfl body17 (by simp) ?_
  rcases hz : sameZ o.pred with _ | _
  · rw [hz] at hN
    simp -implicitDefEqProofs (maxSteps := 4000000) (disch := omega) only [go_sem, go_sem_proc, dr, Nat.min_def, ↓Nat.reduceBEq, ↓Nat.reduceEqDiff, ↓Nat.reduceLT, ↓Nat.reduceLeDiff, ↓Int.reduceEq, ↓Int.reduceLT, ↓Int.reduceLE, ↓reduceIte, hN, hz, nc0, ncz, bb]
    first | done | ((repeat' split) <;> (change _ = true; kernel_rfl))
  rw [hz] at hN
  rcases Classical.propComplete (0 < o.sets.length) with h3 | h3
  · simp -implicitDefEqProofs (maxSteps := 4000000) (disch := omega) only [go_sem, go_sem_proc, dr, Nat.min_def, ↓Nat.reduceBEq, ↓Nat.reduceEqDiff, ↓Nat.reduceLT, ↓Nat.reduceLeDiff, ↓Int.reduceEq, ↓Int.reduceLT, ↓Int.reduceLE, ↓reduceIte, hN, hz, h3, nc0, ncz, bb]
    first | done | ((repeat' split) <;> (change _ = true; kernel_rfl))
  rcases Classical.propComplete (0 < o.cols.length) with h4 | h4
  · simp -implicitDefEqProofs (maxSteps := 4000000) (disch := omega) only [go_sem, go_sem_proc, dr, Nat.min_def, ↓Nat.reduceBEq, ↓Nat.reduceEqDiff, ↓Nat.reduceLT, ↓Nat.reduceLeDiff, ↓Int.reduceEq, ↓Int.reduceLT, ↓Int.reduceLE, ↓reduceIte, hN, hz, h3, h4, nc0, ncz, bb]
    first | done | ((repeat' split) <;> (change _ = true; kernel_rfl))
  rcases Classical.propComplete (o.group = 0) with g1 | g1 <;> rcases Classical.propComplete (o.aggs.length = 0) with g2 | g2 <;> simp -implicitDefEqProofs (maxSteps := 4000000) (disch := omega) only [go_sem, go_sem_proc, dr, Nat.min_def, ↓Nat.reduceBEq, ↓Nat.reduceEqDiff, ↓Nat.reduceLT, ↓Nat.reduceLeDiff, ↓Int.reduceEq, ↓Int.reduceLT, ↓Int.reduceLE, ↓reduceIte, hN, hz, h3, h4, g1, g2, nc0, ncz, bb] <;> (first | done | ((repeat' split) <;> (change _ = true; kernel_rfl)))
theorem bare_FTTFF {o : OpN} : dw E 17 [.agg [.int .i64 o.kind, sf o.rn 4 (o.row.map Val.pv), .int .i64 o.pred.kind, .int .i64 o.pred.col, .int .i64 o.pred.op, .bool o.pred.val.null, .int .i64 o.pred.val.kind, .int .i64 o.pred.val.int, bl o.pred.val.bytes, pl o.pred.nil o.pred.list, sf o.sn 6 (o.sets.map SetN.pv), sf o.cn 1 (o.cols.map intPV), .int .i64 o.group, sf o.an 2 (o.aggs.map AggN.pv)], .bool false, .bool true, .bool true, .bool false, .bool false] [] = some (.bool (bareO false true true false false o), []) := by
  have hN := nonex_spec (p := o.pred)
  unfold bareO
  refine dw_in (fn := Try.f17) rfl body17 (by simp) ?_
  rcases Classical.propComplete (0 < o.row.length) with h1 | h1
  · simp -implicitDefEqProofs (maxSteps := 4000000) (disch := omega) only [go_sem, go_sem_proc, dr, Nat.min_def, ↓Nat.reduceBEq, ↓Nat.reduceEqDiff, ↓Nat.reduceLT, ↓Nat.reduceLeDiff, ↓Int.reduceEq, ↓Int.reduceLT, ↓Int.reduceLE, ↓reduceIte, h1, nc0, ncz, bb]
    first | done | ((repeat' split) <;> (change _ = true; kernel_rfl))
  rcases Classical.propComplete (0 < o.cols.length) with h4 | h4
  · simp -implicitDefEqProofs (maxSteps := 4000000) (disch := omega) only [go_sem, go_sem_proc, dr, Nat.min_def, ↓Nat.reduceBEq, ↓Nat.reduceEqDiff, ↓Nat.reduceLT, ↓Nat.reduceLeDiff, ↓Int.reduceEq, ↓Int.reduceLT, ↓Int.reduceLE, ↓reduceIte, h1, h4, nc0, ncz, bb]
    first | done | ((repeat' split) <;> (change _ = true; kernel_rfl))
  rcases Classical.propComplete (o.group = 0) with g1 | g1 <;> rcases Classical.propComplete (o.aggs.length = 0) with g2 | g2 <;> simp -implicitDefEqProofs (maxSteps := 4000000) (disch := omega) only [go_sem, go_sem_proc, dr, Nat.min_def, ↓Nat.reduceBEq, ↓Nat.reduceEqDiff, ↓Nat.reduceLT, ↓Nat.reduceLeDiff, ↓Int.reduceEq, ↓Int.reduceLT, ↓Int.reduceLE, ↓reduceIte, h1, h4, g1, g2, nc0, ncz, bb] <;> (first | done | ((repeat' split) <;> (change _ = true; kernel_rfl)))
theorem bare_FTFFF {o : OpN} : dw E 17 [.agg [.int .i64 o.kind, sf o.rn 4 (o.row.map Val.pv), .int .i64 o.pred.kind, .int .i64 o.pred.col, .int .i64 o.pred.op, .bool o.pred.val.null, .int .i64 o.pred.val.kind, .int .i64 o.pred.val.int, bl o.pred.val.bytes, pl o.pred.nil o.pred.list, sf o.sn 6 (o.sets.map SetN.pv), sf o.cn 1 (o.cols.map intPV), .int .i64 o.group, sf o.an 2 (o.aggs.map AggN.pv)], .bool false, .bool true, .bool false, .bool false, .bool false] [] = some (.bool (bareO false true false false false o), []) := by
  have hN := nonex_spec (p := o.pred)
  unfold bareO
  refine dw_in (fn := Try.f17) rfl body17 (by simp) ?_
  rcases Classical.propComplete (0 < o.row.length) with h1 | h1
  · simp -implicitDefEqProofs (maxSteps := 4000000) (disch := omega) only [go_sem, go_sem_proc, dr, Nat.min_def, ↓Nat.reduceBEq, ↓Nat.reduceEqDiff, ↓Nat.reduceLT, ↓Nat.reduceLeDiff, ↓Int.reduceEq, ↓Int.reduceLT, ↓Int.reduceLE, ↓reduceIte, h1, nc0, ncz, bb]
    first | done | ((repeat' split) <;> (change _ = true; kernel_rfl))
  rcases Classical.propComplete (0 < o.sets.length) with h3 | h3
  · simp -implicitDefEqProofs (maxSteps := 4000000) (disch := omega) only [go_sem, go_sem_proc, dr, Nat.min_def, ↓Nat.reduceBEq, ↓Nat.reduceEqDiff, ↓Nat.reduceLT, ↓Nat.reduceLeDiff, ↓Int.reduceEq, ↓Int.reduceLT, ↓Int.reduceLE, ↓reduceIte, h1, h3, nc0, ncz, bb]
    first | done | ((repeat' split) <;> (change _ = true; kernel_rfl))
  rcases Classical.propComplete (0 < o.cols.length) with h4 | h4
  · simp -implicitDefEqProofs (maxSteps := 4000000) (disch := omega) only [go_sem, go_sem_proc, dr, Nat.min_def, ↓Nat.reduceBEq, ↓Nat.reduceEqDiff, ↓Nat.reduceLT, ↓Nat.reduceLeDiff, ↓Int.reduceEq, ↓Int.reduceLT, ↓Int.reduceLE, ↓reduceIte, h1, h3, h4, nc0, ncz, bb]
    first | done | ((repeat' split) <;> (change _ = true; kernel_rfl))
  rcases Classical.propComplete (o.group = 0) with g1 | g1 <;> rcases Classical.propComplete (o.aggs.length = 0) with g2 | g2 <;> simp -implicitDefEqProofs (maxSteps := 4000000) (disch := omega) only [go_sem, go_sem_proc, dr, Nat.min_def, ↓Nat.reduceBEq, ↓Nat.reduceEqDiff, ↓Nat.reduceLT, ↓Nat.reduceLeDiff, ↓Int.reduceEq, ↓Int.reduceLT, ↓Int.reduceLE, ↓reduceIte, h1, h3, h4, g1, g2, nc0, ncz, bb] <;> (first | done | ((repeat' split) <;> (change _ = true; kernel_rfl)))
theorem bare_FTFTF {o : OpN} : dw E 17 [.agg [.int .i64 o.kind, sf o.rn 4 (o.row.map Val.pv), .int .i64 o.pred.kind, .int .i64 o.pred.col, .int .i64 o.pred.op, .bool o.pred.val.null, .int .i64 o.pred.val.kind, .int .i64 o.pred.val.int, bl o.pred.val.bytes, pl o.pred.nil o.pred.list, sf o.sn 6 (o.sets.map SetN.pv), sf o.cn 1 (o.cols.map intPV), .int .i64 o.group, sf o.an 2 (o.aggs.map AggN.pv)], .bool false, .bool true, .bool false, .bool true, .bool false] [] = some (.bool (bareO false true false true false o), []) := by
  have hN := nonex_spec (p := o.pred)
  unfold bareO
  refine dw_in (fn := Try.f17) rfl body17 (by simp) ?_
  rcases Classical.propComplete (0 < o.row.length) with h1 | h1
  · simp -implicitDefEqProofs (maxSteps := 4000000) (disch := omega) only [go_sem, go_sem_proc, dr, Nat.min_def, ↓Nat.reduceBEq, ↓Nat.reduceEqDiff, ↓Nat.reduceLT, ↓Nat.reduceLeDiff, ↓Int.reduceEq, ↓Int.reduceLT, ↓Int.reduceLE, ↓reduceIte, h1, nc0, ncz, bb]
    first | done | ((repeat' split) <;> (change _ = true; kernel_rfl))
  rcases Classical.propComplete (0 < o.sets.length) with h3 | h3
  · simp -implicitDefEqProofs (maxSteps := 4000000) (disch := omega) only [go_sem, go_sem_proc, dr, Nat.min_def, ↓Nat.reduceBEq, ↓Nat.reduceEqDiff, ↓Nat.reduceLT, ↓Nat.reduceLeDiff, ↓Int.reduceEq, ↓Int.reduceLT, ↓Int.reduceLE, ↓reduceIte, h1, h3, nc0, ncz, bb]
    first | done | ((repeat' split) <;> (change _ = true; kernel_rfl))
  rcases Classical.propComplete (o.group = 0) with g1 | g1 <;> rcases Classical.propComplete (o.aggs.length = 0) with g2 | g2 <;> simp -implicitDefEqProofs (maxSteps := 4000000) (disch := omega) only [go_sem, go_sem_proc, dr, Nat.min_def, ↓Nat.reduceBEq, ↓Nat.reduceEqDiff, ↓Nat.reduceLT, ↓Nat.reduceLeDiff, ↓Int.reduceEq, ↓Int.reduceLT, ↓Int.reduceLE, ↓reduceIte, h1, h3, g1, g2, nc0, ncz, bb] <;> (first | done | ((repeat' split) <;> (change _ = true; kernel_rfl)))
theorem bare_FTFFT {o : OpN} : dw E 17 [.agg [.int .i64 o.kind, sf o.rn 4 (o.row.map Val.pv), .int .i64 o.pred.kind, .int .i64 o.pred.col, .int .i64 o.pred.op, .bool o.pred.val.null, .int .i64 o.pred.val.kind, .int .i64 o.pred.val.int, bl o.pred.val.bytes, pl o.pred.nil o.pred.list, sf o.sn 6 (o.sets.map SetN.pv), sf o.cn 1 (o.cols.map intPV), .int .i64 o.group, sf o.an 2 (o.aggs.map AggN.pv)], .bool false, .bool true, .bool false, .bool false, .bool true] [] = some (.bool (bareO false true false false true o), []) := by
  have hN := nonex_spec (p := o.pred)
  unfold bareO
  refine dw_in (fn := Try.f17) rfl body17 (by simp) ?_
  rcases Classical.propComplete (0 < o.row.length) with h1 | h1
  · simp -implicitDefEqProofs (maxSteps := 4000000) (disch := omega) only [go_sem, go_sem_proc, dr, Nat.min_def, ↓Nat.reduceBEq, ↓Nat.reduceEqDiff, ↓Nat.reduceLT, ↓Nat.reduceLeDiff, ↓Int.reduceEq, ↓Int.reduceLT, ↓Int.reduceLE, ↓reduceIte, h1, nc0, ncz, bb]
    first | done | ((repeat' split) <;> (change _ = true; kernel_rfl))
  rcases Classical.propComplete (0 < o.sets.length) with h3 | h3
  · simp -implicitDefEqProofs (maxSteps := 4000000) (disch := omega) only [go_sem, go_sem_proc, dr, Nat.min_def, ↓Nat.reduceBEq, ↓Nat.reduceEqDiff, ↓Nat.reduceLT, ↓Nat.reduceLeDiff, ↓Int.reduceEq, ↓Int.reduceLT, ↓Int.reduceLE, ↓reduceIte, h1, h3, nc0, ncz, bb]
    first | done | ((repeat' split) <;> (change _ = true; kernel_rfl))
  rcases Classical.propComplete (0 < o.cols.length) with h4 | h4
  · simp -implicitDefEqProofs (maxSteps := 4000000) (disch := omega) only [go_sem, go_sem_proc, dr, Nat.min_def, ↓Nat.reduceBEq, ↓Nat.reduceEqDiff, ↓Nat.reduceLT, ↓Nat.reduceLeDiff, ↓Int.reduceEq, ↓Int.reduceLT, ↓Int.reduceLE, ↓reduceIte, h1, h3, h4, nc0, ncz, bb]
    first | done | ((repeat' split) <;> (change _ = true; kernel_rfl))
  simp -implicitDefEqProofs (maxSteps := 4000000) (disch := omega) only [go_sem, go_sem_proc, dr, Nat.min_def, ↓Nat.reduceBEq, ↓Nat.reduceEqDiff, ↓Nat.reduceLT, ↓Nat.reduceLeDiff, ↓Int.reduceEq, ↓Int.reduceLT, ↓Int.reduceLE, ↓reduceIte, h1, h3, h4, nc0, ncz, bb]
  first | done | ((repeat' split) <;> (change _ = true; kernel_rfl))
theorem bare_FFFFF {o : OpN} : dw E 17 [.agg [.int .i64 o.kind, sf o.rn 4 (o.row.map Val.pv), .int .i64 o.pred.kind, .int .i64 o.pred.col, .int .i64 o.pred.op, .bool o.pred.val.null, .int .i64 o.pred.val.kind, .int .i64 o.pred.val.int, bl o.pred.val.bytes, pl o.pred.nil o.pred.list, sf o.sn 6 (o.sets.map SetN.pv), sf o.cn 1 (o.cols.map intPV), .int .i64 o.group, sf o.an 2 (o.aggs.map AggN.pv)], .bool false, .bool false, .bool false, .bool false, .bool false] [] = some (.bool (bareO false false false false false o), []) := by
  have hN := nonex_spec (p := o.pred)
  unfold bareO
  refine dw_in (fn := Try.f17) rfl body17 (by simp) ?_
  rcases Classical.propComplete (0 < o.row.length) with h1 | h1
  · simp -implicitDefEqProofs (maxSteps := 4000000) (disch := omega) only [go_sem, go_sem_proc, dr, Nat.min_def, ↓Nat.reduceBEq, ↓Nat.reduceEqDiff, ↓Nat.reduceLT, ↓Nat.reduceLeDiff, ↓Int.reduceEq, ↓Int.reduceLT, ↓Int.reduceLE, ↓reduceIte, h1, nc0, ncz, bb]
    first | done | ((repeat' split) <;> (change _ = true; kernel_rfl))
  rcases hz : sameZ o.pred with _ | _
  · rw [hz] at hN
    simp -implicitDefEqProofs (maxSteps := 4000000) (disch := omega) only [go_sem, go_sem_proc, dr, Nat.min_def, ↓Nat.reduceBEq, ↓Nat.reduceEqDiff, ↓Nat.reduceLT, ↓Nat.reduceLeDiff, ↓Int.reduceEq, ↓Int.reduceLT, ↓Int.reduceLE, ↓reduceIte, h1, hN, hz, nc0, ncz, bb]
    first | done | ((repeat' split) <;> (change _ = true; kernel_rfl))
  rw [hz] at hN
  rcases Classical.propComplete (0 < o.sets.length) with h3 | h3
  · simp -implicitDefEqProofs (maxSteps := 4000000) (disch := omega) only [go_sem, go_sem_proc, dr, Nat.min_def, ↓Nat.reduceBEq, ↓Nat.reduceEqDiff, ↓Nat.reduceLT, ↓Nat.reduceLeDiff, ↓Int.reduceEq, ↓Int.reduceLT, ↓Int.reduceLE, ↓reduceIte, h1, hN, hz, h3, nc0, ncz, bb]
    first | done | ((repeat' split) <;> (change _ = true; kernel_rfl))
  rcases Classical.propComplete (0 < o.cols.length) with h4 | h4
  · simp -implicitDefEqProofs (maxSteps := 4000000) (disch := omega) only [go_sem, go_sem_proc, dr, Nat.min_def, ↓Nat.reduceBEq, ↓Nat.reduceEqDiff, ↓Nat.reduceLT, ↓Nat.reduceLeDiff, ↓Int.reduceEq, ↓Int.reduceLT, ↓Int.reduceLE, ↓reduceIte, h1, hN, hz, h3, h4, nc0, ncz, bb]
    first | done | ((repeat' split) <;> (change _ = true; kernel_rfl))
  rcases Classical.propComplete (o.group = 0) with g1 | g1 <;> rcases Classical.propComplete (o.aggs.length = 0) with g2 | g2 <;> simp -implicitDefEqProofs (maxSteps := 4000000) (disch := omega) only [go_sem, go_sem_proc, dr, Nat.min_def, ↓Nat.reduceBEq, ↓Nat.reduceEqDiff, ↓Nat.reduceLT, ↓Nat.reduceLeDiff, ↓Int.reduceEq, ↓Int.reduceLT, ↓Int.reduceLE, ↓reduceIte, h1, hN, hz, h3, h4, g1, g2, nc0, ncz, bb] <;> (first | done | ((repeat' split) <;> (change _ = true; kernel_rfl)))
end Go.Proofs.Ytgbeijemcojnpaa.D
