/- StamMine: what the law comes to. -/
import Derived.Test.YtknapjbdgpjdjaaStam3
namespace Go.Proofs.Ytknapjbdgpjdjaa.D
open Go Go.Den
set_option linter.unusedSimpArgs false
set_option linter.unusedVariables false
set_option maxRecDepth 20000
set_option maxHeartbeats 8000000
theorem stampT_9 (n : Int) : 0 ≤ stampT n ∧ stampT n ≤ 6 := by unfold stampT; split <;> omega
theorem StamMine_spec {l : List Int} {v at' : Int} : dw E 4 [.sl 1 (ints .i64 l), .int .i64 v, .int .i64 at'] [] = some (.bool true, []) := by
  have hT : dw E 12 [.sl 1 (ints .i64 l)] [] = some (.nr 23 4 ((txsL l).map Tx.pv), []) := Txns_spec
  have hI := txsL_is l
  have h9 : stateN 9 (txsL l) = ⟨0, 0, 0, 0⟩ := stateN_none fun x hx => by have := txsN_id l _ x hx; omega
  have hS := Stamp_spec (n := v)
  have hb := stampT_9 v
  generalize stampT v = t at hS hb
  generalize stampA v = a at hS
  generalize txsL l = L at hT hI h9
  have s1 := Sees_spec (bt := 9) (ba := 0) (et := 0) (ea := 0) (me := 9) (at' := at' % 16) hI
  have s2 := Base_spec (bt := 9) (ba := 0) (et := 0) (ea := 0) (me := 9) (at' := at' % 16) hI
  have s3 := Sees_spec (bt := t) (ba := a) (et := 0) (ea := 0) (me := 9) (at' := at' % 16) hI
  have s4 := Base_spec (bt := t) (ba := a) (et := 9) (ea := 0) (me := 9) (at' := at' % 16) hI
  have s5 := Sees_spec (bt := t) (ba := a) (et := 9) (ea := 0) (me := 9) (at' := at' % 16) hI
  have h8 := May9 (bt := t) (ba := a) hI h9
  have hw := awake11
  rw [show seesN 9 0 0 0 9 (at' % 16) L true = (true, []) from rfl] at s1
  rw [show seesN 9 0 0 0 9 (at' % 16) L false = (false, []) from rfl] at s2
  have ht9 : ¬ t = 9 := by omega
  have e3 : seesN t a 0 0 9 (at' % 16) L true = if (holdsN t a (at' % 16) L).1 = false then (false, []) else (true, onN (holdsN t a (at' % 16) L).2 t) := by simp [seesN, endN, begN, onN, ht9]
  have e4 : seesN t a 9 0 9 (at' % 16) L false = if (holdsN t a (at' % 16) L).1 = false then (false, []) else (true, onN (holdsN t a (at' % 16) L).2 t) := by simp [seesN, endN, begN, onN, ht9]
  have e5 : seesN t a 9 0 9 (at' % 16) L true = if (holdsN t a (at' % 16) L).1 = false then (false, []) else (false, onN (holdsN t a (at' % 16) L).2 t) := by simp [seesN, endN, begN, onN, ht9]
  rw [e3] at s3
  rw [e4] at s4
  rw [e5] at s5
  clear e3 e4 e5 h9 hI hb ht9
  generalize L.map Tx.pv = rows at hT s1 s2 s3 s4 s5 h8
  generalize holdsN t a (at' % 16) L = pq at s3 s4 s5
  obtain ⟨p, q⟩ := pq
  have n1 := Same_nil
  have n2 : dw E 15 [.sl 1 (ints .i64 (cpZ none (sortZ [t]))), .sl 1 (ints .i64 (cpZ none (sortZ [t])))] [] = some (.bool true, []) := Same_one (x := t)
  cases p with
  | false =>
    simp only [if_true, outPV] at s1 s2 s3 s4 s5
    refine dw_in (fn := Try.f4) rfl body4 (by simp) ?_
    simp -implicitDefEqProofs (maxSteps := 4000000) (disch := omega) only [go_sem, go_sem_proc, dr, Nat.min_def, ↓Nat.reduceBEq, ↓Nat.reduceEqDiff, ↓Nat.reduceLT, ↓Nat.reduceLeDiff, ↓Int.reduceEq, ↓Int.reduceLT, ↓Int.reduceLE, ↓reduceIte, hT, hS, sand15, s1, s2, s3, s4, s5, h8, hw, n1]
    first | done | ((repeat' split) <;> (change _ = true; kernel_rfl))
  | true =>
    cases q with
    | false =>
      simp only [Bool.true_eq_false, if_false, onN, outPV] at s1 s2 s3 s4 s5
      refine dw_in (fn := Try.f4) rfl body4 (by simp) ?_
      simp -implicitDefEqProofs (maxSteps := 4000000) (disch := omega) only [go_sem, go_sem_proc, dr, Nat.min_def, ↓Nat.reduceBEq, ↓Nat.reduceEqDiff, ↓Nat.reduceLT, ↓Nat.reduceLeDiff, ↓Int.reduceEq, ↓Int.reduceLT, ↓Int.reduceLE, ↓reduceIte, hT, hS, sand15, s1, s2, s3, s4, s5, h8, hw, n1]
      first | done | ((repeat' split) <;> (change _ = true; kernel_rfl))
    | true =>
      simp only [Bool.true_eq_false, if_false, onN, outPV] at s1 s2 s3 s4 s5
      refine dw_in (fn := Try.f4) rfl body4 (by simp) ?_
      simp -implicitDefEqProofs (maxSteps := 4000000) (disch := omega) only [go_sem, go_sem_proc, dr, Nat.min_def, ↓Nat.reduceBEq, ↓Nat.reduceEqDiff, ↓Nat.reduceLT, ↓Nat.reduceLeDiff, ↓Int.reduceEq, ↓Int.reduceLT, ↓Int.reduceLE, ↓reduceIte, hT, hS, sand15, s1, s2, s3, s4, s5, h8, hw, n2]
      first | done | ((repeat' split) <;> (change _ = true; kernel_rfl))
end Go.Proofs.Ytknapjbdgpjdjaa.D
