/- Whether an op is one, by expr. -/
import Derived.Test.YtgbeijemcojnpaaExpr3
namespace Go.Proofs.Ytgbeijemcojnpaa.D
open Go Go.Den
set_option linter.unusedSimpArgs false
set_option linter.unusedVariables false
set_option maxRecDepth 20000
set_option maxHeartbeats 8000000
theorem Fits_sf {s : List Col} {n : Bool} {r : List Val} (hs : s.length ≤ 20) (h1 : 1 ≤ s.length) : dw E 18 [.agg [.sl 3 (s.map Col.pv)], sf n 4 (r.map Val.pv)] [] = some (.bool (fits s r), []) := by
  rcases sf_cases n 4 (r.map Val.pv) with ⟨h, h2⟩ | h
  · rw [h]
    have hr : r = [] := by simpa using h2
    subst hr
    have hf : fits s [] = false := by unfold fits; rw [decide_eq_false (by simp; omega)]; rfl
    rw [hf]
    have hl : ((s.length : Int) = 0) = False := eq_false (by omega)
    have hl' : ((0 : Int) = (s.length : Int)) = False := eq_false (by omega)
    clear h h2
    refine dw_in (fn := Try.f18) rfl body18 (by simp) ?_
    simp -implicitDefEqProofs (maxSteps := 4000000) (disch := omega) only [go_sem, go_sem_proc, dr, Nat.min_def, ↓Nat.reduceBEq, ↓Nat.reduceEqDiff, ↓Nat.reduceLT, ↓Nat.reduceLeDiff, ↓Int.reduceEq, ↓Int.reduceLT, ↓Int.reduceLE, ↓reduceIte, hl, hl']
    first | done | ((repeat' split) <;> (change _ = true; kernel_rfl))
  · rw [h]
    exact Fits_spec (by omega)
structure OpOk (o : OpN) : Prop where
  p : Sl o.pred
  r : o.row.length ≤ 9223372036854775807
  s : o.sets.length ≤ 9223372036854775807
  c : o.cols.length ≤ 9223372036854775807
  a : o.aggs.length ≤ 9223372036854775807
def colsB (s : List Col) (l : List Int) : Bool := decide (1 ≤ l.length) && (decide (l.length ≤ 6) && !l.any fun c => !inB s c)
def aggsB (s : List Col) (l : List AggN) : Bool := decide (1 ≤ l.length) && (decide (l.length ≤ 4) && !l.any fun a => !aggB s a)
def exprB (s : List Col) (o : OpN) : Bool :=
  if o.kind = 1 then bareO true false false false false o && fits s o.row
  else if o.kind = 2 then bareO false true true false false o && ((lookP s o.pred 5 0).1 && setsB s o.sets)
  else if o.kind = 3 then bareO false true false false false o && (lookP s o.pred 5 0).1
  else if o.kind = 4 then bareO false true false true false o && ((lookP s o.pred 5 0).1 && colsB s o.cols)
  else if o.kind = 5 then bareO false true false false true o && ((lookP s o.pred 5 0).1 && ((decide (o.group = -1) || inB s o.group) && aggsB s o.aggs))
  else if o.kind = 6 then bareO false false false false false o
  else false
theorem ExprOp_spec {s : List Col} {o : OpN} (hs : s.length ≤ 20) (hs1 : 1 ≤ s.length) (ho : OpOk o) : dw E 8 [.agg [.sl 3 (s.map Col.pv)], .agg [.int .i64 o.kind, sf o.rn 4 (o.row.map Val.pv), .int .i64 o.pred.kind, .int .i64 o.pred.col, .int .i64 o.pred.op, .bool o.pred.val.null, .int .i64 o.pred.val.kind, .int .i64 o.pred.val.int, bl o.pred.val.bytes, pl o.pred.nil o.pred.list, sf o.sn 6 (o.sets.map SetN.pv), sf o.cn 1 (o.cols.map intPV), .int .i64 o.group, sf o.an 2 (o.aggs.map AggN.pv)]] [] = some (.bool (exprB s o), []) := by
  obtain ⟨hp, hr, hse, hc, ha⟩ := ho
  have b1 := bare_TFFFF (o := o)
  have b2 := bare_FTTFF (o := o)
  have b3 := bare_FTFFF (o := o)
  have b4 := bare_FTFTF (o := o)
  have b5 := bare_FTFFT (o := o)
  have b6 := bare_FFFFF (o := o)
  have hF := Fits_sf (s := s) (n := o.rn) (r := o.row) hs hs1
  have hO := Ok_spec hs hp
  have hS := sets_spec (s := s) (n := o.sn) (l := o.sets) hs hse
  have hC := Contains_int (n := o.cn) (L := o.cols) (C := [.sl 3 (s.map Col.pv)]) (φ := fun c => !inB s c) hc (fun x _ => bad_spec hs)
  have hA := Contains_agg (n := o.an) (L := o.aggs) (C := [.sl 3 (s.map Col.pv)]) (φ := fun a => !aggB s a) ha (fun x _ => badagg_spec hs)
  have hI := in_spec (s := s) (c := o.group) hs
  clear hp hr hse
  unfold exprB
  by_cases h1 : o.kind = 1
  · rw [if_pos h1]
    clear b2 b3 b4 b5 b6 hO hS hC hA hI hc ha
    cases q1 : bareO true false false false false o <;> cases q2 : fits s o.row <;> rw [q1, h1] at b1 <;> rw [q2] at hF <;> (refine dw_in (fn := Try.f8) rfl body8 (by simp) ?_) <;> simp -implicitDefEqProofs (maxSteps := 4000000) (disch := omega) only [go_sem, go_sem_proc, dr, Nat.min_def, ↓Nat.reduceBEq, ↓Nat.reduceEqDiff, ↓Nat.reduceLT, ↓Nat.reduceLeDiff, ↓Int.reduceEq, ↓Int.reduceLT, ↓Int.reduceLE, ↓reduceIte, h1, b1, hF, nc0, nc1, nc4, nc6, ncz, bb] <;> (first | done | ((repeat' split) <;> (change _ = true; kernel_rfl)))
  rw [if_neg h1]
  have h1 := eq_false h1
  by_cases h2 : o.kind = 2
  · rw [if_pos h2]
    clear b1 b3 b4 b5 b6 hF hC hA hI hc ha h1
    cases q1 : bareO false true true false false o <;> cases q2 : (lookP s o.pred 5 0).1 <;> cases q3 : setsB s o.sets <;> rw [q1, h2] at b2 <;> rw [q2] at hO <;> rw [q3] at hS <;> (refine dw_in (fn := Try.f8) rfl body8 (by simp) ?_) <;> simp -implicitDefEqProofs (maxSteps := 4000000) (disch := omega) only [go_sem, go_sem_proc, dr, Nat.min_def, ↓Nat.reduceBEq, ↓Nat.reduceEqDiff, ↓Nat.reduceLT, ↓Nat.reduceLeDiff, ↓Int.reduceEq, ↓Int.reduceLT, ↓Int.reduceLE, ↓reduceIte, h2, b2, hO, hS, nc0, nc1, nc4, nc6, ncz, bb] <;> (first | done | ((repeat' split) <;> (change _ = true; kernel_rfl)))
  rw [if_neg h2]
  have h2 := eq_false h2
  by_cases h3 : o.kind = 3
  · rw [if_pos h3]
    clear b1 b2 b4 b5 b6 hF hS hC hA hI hc ha h1 h2
    cases q1 : bareO false true false false false o <;> cases q2 : (lookP s o.pred 5 0).1 <;> rw [q1, h3] at b3 <;> rw [q2] at hO <;> (refine dw_in (fn := Try.f8) rfl body8 (by simp) ?_) <;> simp -implicitDefEqProofs (maxSteps := 4000000) (disch := omega) only [go_sem, go_sem_proc, dr, Nat.min_def, ↓Nat.reduceBEq, ↓Nat.reduceEqDiff, ↓Nat.reduceLT, ↓Nat.reduceLeDiff, ↓Int.reduceEq, ↓Int.reduceLT, ↓Int.reduceLE, ↓reduceIte, h3, b3, hO, nc0, nc1, nc4, nc6, ncz, bb] <;> (first | done | ((repeat' split) <;> (change _ = true; kernel_rfl)))
  rw [if_neg h3]
  have h3 := eq_false h3
  by_cases h4 : o.kind = 4
  · rw [if_pos h4]
    unfold colsB
    clear b1 b2 b3 b5 b6 hF hS hA hI ha h1 h2 h3
    generalize (o.cols.any fun c => !inB s c) = w at hC
    cases q1 : bareO false true false true false o <;> cases q2 : (lookP s o.pred 5 0).1 <;> cases w <;> rcases Classical.propComplete (1 ≤ o.cols.length) with g1 | g1 <;> rcases Classical.propComplete (o.cols.length ≤ 6) with g2 | g2 <;> rw [q1, h4] at b4 <;> rw [q2] at hO <;> (refine dw_in (fn := Try.f8) rfl body8 (by simp) ?_) <;> simp -implicitDefEqProofs (maxSteps := 4000000) (disch := omega) only [go_sem, go_sem_proc, dr, Nat.min_def, ↓Nat.reduceBEq, ↓Nat.reduceEqDiff, ↓Nat.reduceLT, ↓Nat.reduceLeDiff, ↓Int.reduceEq, ↓Int.reduceLT, ↓Int.reduceLE, ↓reduceIte, h4, b4, hO, hC, g1, g2, nc0, nc1, nc4, nc6, ncz, bb] <;> (first | done | ((repeat' split) <;> (change _ = true; kernel_rfl)))
  rw [if_neg h4]
  have h4 := eq_false h4
  by_cases h5 : o.kind = 5
  · rw [if_pos h5]
    unfold aggsB
    clear b1 b2 b3 b4 b6 hF hS hC hc h1 h2 h3 h4
    generalize (o.aggs.any fun a => !aggB s a) = w at hA
    generalize inB s o.group = z at hI
    cases q1 : bareO false true false false true o <;> cases q2 : (lookP s o.pred 5 0).1 <;> rw [q1, h5] at b5 <;> rw [q2] at hO <;> cases w <;> rcases Classical.propComplete (1 ≤ o.aggs.length) with g1 | g1 <;> rcases Classical.propComplete (o.aggs.length ≤ 4) with g2 | g2 <;> rcases Classical.propComplete (o.group = -1) with g3 | g3 <;> cases z <;> (refine dw_in (fn := Try.f8) rfl body8 (by simp) ?_) <;> simp -implicitDefEqProofs (maxSteps := 4000000) (disch := omega) only [go_sem, go_sem_proc, dr, Nat.min_def, ↓Nat.reduceBEq, ↓Nat.reduceEqDiff, ↓Nat.reduceLT, ↓Nat.reduceLeDiff, ↓Int.reduceEq, ↓Int.reduceLT, ↓Int.reduceLE, ↓reduceIte, h5, b5, hO, hA, hI, g1, g2, g3, nc0, nc1, nc4, nc6, ncz, bb] <;> (first | done | ((repeat' split) <;> (change _ = true; kernel_rfl)))
  rw [if_neg h5]
  have h5 := eq_false h5
  by_cases h6 : o.kind = 6
  · rw [if_pos h6]
    rw [h6] at b6
    refine dw_in (fn := Try.f8) rfl body8 (by simp) ?_
    simp -implicitDefEqProofs (maxSteps := 4000000) (disch := omega) only [go_sem, go_sem_proc, dr, Nat.min_def, ↓Nat.reduceBEq, ↓Nat.reduceEqDiff, ↓Nat.reduceLT, ↓Nat.reduceLeDiff, ↓Int.reduceEq, ↓Int.reduceLT, ↓Int.reduceLE, ↓reduceIte, h6, b6, nc0, nc1, nc4, nc6, ncz, bb]
    first | done | ((repeat' split) <;> (change _ = true; kernel_rfl))
  rw [if_neg h6]
  have h6 := eq_false h6
  refine dw_in (fn := Try.f8) rfl body8 (by simp) ?_
  simp -implicitDefEqProofs (maxSteps := 4000000) (disch := omega) only [go_sem, go_sem_proc, dr, Nat.min_def, ↓Nat.reduceBEq, ↓Nat.reduceEqDiff, ↓Nat.reduceLT, ↓Nat.reduceLeDiff, ↓Int.reduceEq, ↓Int.reduceLT, ↓Int.reduceLE, ↓reduceIte, h1, h2, h3, h4, h5, h6, nc0, nc1, nc4, nc6, ncz, bb]
  first | done | ((repeat' split) <;> (change _ = true; kernel_rfl))
theorem badop_spec {s : List Col} {o : OpN} (hs : s.length ≤ 20) (hs1 : 1 ≤ s.length) (ho : OpOk o) : dw E 34 [.agg [.int .i64 o.kind, sf o.rn 4 (o.row.map Val.pv), .int .i64 o.pred.kind, .int .i64 o.pred.col, .int .i64 o.pred.op, .bool o.pred.val.null, .int .i64 o.pred.val.kind, .int .i64 o.pred.val.int, bl o.pred.val.bytes, pl o.pred.nil o.pred.list, sf o.sn 6 (o.sets.map SetN.pv), sf o.cn 1 (o.cols.map intPV), .int .i64 o.group, sf o.an 2 (o.aggs.map AggN.pv)], .pc [.sl 3 (s.map Col.pv)]] [] = some (.bool (!exprB s o), []) := by
  have hO := ExprOp_spec hs hs1 ho
  clear ho
  refine dw_in (fn := Try.f34) rfl body34 (by simp) ?_
  simp -implicitDefEqProofs (maxSteps := 4000000) (disch := omega) only [go_sem, go_sem_proc, dr, Nat.min_def, ↓Nat.reduceBEq, ↓Nat.reduceEqDiff, ↓Nat.reduceLT, ↓Nat.reduceLeDiff, ↓Int.reduceEq, ↓Int.reduceLT, ↓Int.reduceLE, ↓reduceIte, hO]
def progB (s : List Col) (l : List OpN) : Bool := decide (l.length ≤ 16) && !l.any fun o => !exprB s o
theorem ExprProgram_spec {s : List Col} {n : Bool} {l : List OpN} (hs : s.length ≤ 20) (hs1 : 1 ≤ s.length) (hl : l.length ≤ 9223372036854775807) (ho : ∀ o ∈ l, OpOk o) : dw E 11 [.agg [.sl 3 (s.map Col.pv)], sf n 14 (l.map OpN.pv)] [] = some (.bool (progB s l), []) := by
  have hC := Contains_op (n := n) (L := l) (C := [.sl 3 (s.map Col.pv)]) (φ := fun o => !exprB s o) hl (fun x hx => badop_spec hs hs1 (ho x hx))
  unfold progB
  clear ho
  generalize (l.any fun o => !exprB s o) = w at hC
  have nc16 : ((l.length : Int) ≤ 16) = (l.length ≤ 16) := propext (by omega)
  rcases Classical.propComplete (l.length ≤ 16) with g1 | g1 <;> cases w <;> (refine dw_in (fn := Try.f11) rfl body11 (by simp) ?_) <;> simp -implicitDefEqProofs (maxSteps := 4000000) (disch := omega) only [go_sem, go_sem_proc, dr, Nat.min_def, ↓Nat.reduceBEq, ↓Nat.reduceEqDiff, ↓Nat.reduceLT, ↓Nat.reduceLeDiff, ↓Int.reduceEq, ↓Int.reduceLT, ↓Int.reduceLE, ↓reduceIte, nc16, g1, hC, nc0, nc1, nc4, nc6, ncz, bb] <;> (first | done | ((repeat' split) <;> (change _ = true; kernel_rfl)))
end Go.Proofs.Ytgbeijemcojnpaa.D
