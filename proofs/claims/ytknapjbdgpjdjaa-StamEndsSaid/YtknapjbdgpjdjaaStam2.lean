/- What one sees. -/
import Derived.Test.YtknapjbdgpjdjaaStam1
namespace Go.Proofs.Ytknapjbdgpjdjaa.D
open Go Go.Den
set_option linter.unusedSimpArgs false
set_option linter.unusedVariables false
set_option maxRecDepth 20000
set_option maxHeartbeats 8000000
def begN (t a me at' : Int) (L : List Tx) (mine : Bool) : Bool × Bool := if t = me ∧ ¬ me = 0 then (mine, false) else holdsN t a at' L
def endN (t a me at' : Int) (L : List Tx) (mine : Bool) : Bool × Bool := if t = 0 ∧ a = 0 then (false, false) else begN t a me at' L mine
def onN (p : Bool) (t : Int) : List Int := match p with | true => [t] | false => []
def outPV : List Int → PV
  | [] => .nils
  | x :: r => .nr 3 1 (ints .i64 (cpZ none (sortZ (x :: r))))
def seesN (bt ba et ea me at' : Int) (L : List Tx) (mine : Bool) : Bool × List Int :=
  if (begN bt ba me at' L mine).1 = false then (false, [])
  else (!(endN et ea me at' L mine).1, onN (begN bt ba me at' L mine).2 bt ++ onN (endN et ea me at' L mine).2 et)
theorem sort1 (e : Nat) (x : Int) : sortG e 1 (ints .i64 [x]) = some (ints .i64 (sortZ [x])) := sortG_row e [x] (by simp [lim])
theorem sort2 (e : Nat) (x y : Int) : sortG e 1 (ints .i64 [x, y]) = some (ints .i64 (sortZ [x, y])) := sortG_row e [x, y] (by simp [lim])
theorem comp1 (e : Nat) (x : Int) : compactG e 1 (ints .i64 (sortZ [x])) = some (ints .i64 (cpZ none (sortZ [x]))) := compactG_row e _ (by rw [(sortZ_perm _).length_eq]; simp [lim])
theorem comp2 (e : Nat) (x y : Int) : compactG e 1 (ints .i64 (sortZ [x, y])) = some (ints .i64 (cpZ none (sortZ [x, y]))) := compactG_row e _ (by rw [(sortZ_perm _).length_eq]; simp [lim])
theorem sees_spec {bt ba et ea me at' : Int} {X : PV} {L : List Tx} {mine : Bool} (h : IsTx X L) :
    dw E 19 [.agg [.int .i64 bt, .int .i64 ba, .int .i64 et, .int .i64 ea], .int .i64 me, .int .i64 at', X, .bool mine] [] =
      some (.tup [.bool (seesN bt ba et ea me at' L mine).1, outPV (seesN bt ba et ea me at' L mine).2], []) := by
  have hB := holds_spec (t := bt) (a := ba) (at' := at') h
  have hE := holds_spec (t := et) (a := ea) (at' := at') h
  have hN := Never_spec (t := et) (a := ea)
  have hX : X = .nils ∨ ∃ xs, X = .sl 4 xs := by
    obtain ⟨h | ⟨h, _⟩, _⟩ := h
    · exact .inr ⟨_, h⟩
    · exact .inl h
  clear h
  simp only [seesN, endN, begN]
  obtain ⟨p, hp⟩ : ∃ p, holdsN bt ba at' L = p := ⟨_, rfl⟩
  obtain ⟨q, hq⟩ : ∃ p, holdsN et ea at' L = p := ⟨_, rfl⟩
  simp only [hp] at hB ⊢
  simp only [hq] at hE ⊢
  clear hp hq
  obtain ⟨b1, b2⟩ := p
  obtain ⟨e1, e2⟩ := q
  have s1 := sort1 3 bt
  have s2 := sort1 3 et
  have s3 := sort2 3 bt et
  have c1 := comp1 3 bt
  have c2 := comp1 3 et
  have c3 := comp2 3 bt et
  dsimp only at hB hE
  have hN0 : (et = 0 ∧ ea = 0) ∨ ¬ (et = 0 ∧ ea = 0) := Classical.em _
  obtain ⟨N, hNe⟩ : ∃ N : Bool, (decide (et = 0) && decide (ea = 0)) = N := ⟨_, rfl⟩
  rw [hNe] at hN
  have iN : (et = 0 ∧ ea = 0) = (N = true) := by rw [← hNe]; simp
  simp only [iN]
  clear iN hNe hN0
  rcases Classical.propComplete (bt = me) with hb | hb
  · skip
    rcases Classical.propComplete (me = 0) with hm | hm
    · skip
      cases b1 with
      | true =>
        cases b2 with
        | true =>
          cases N with
          | true =>
            rcases hX with rfl | ⟨xs, rfl⟩ <;> (refine dw_in (fn := Try.f19) rfl body19 (by simp) ?_) <;> simp -implicitDefEqProofs (maxSteps := 4000000) (disch := omega) only [go_sem, go_sem_proc, dr, Nat.min_def, ↓Nat.reduceBEq, ↓Nat.reduceEqDiff, ↓Nat.reduceLT, ↓Nat.reduceLeDiff, ↓Int.reduceEq, ↓Int.reduceLT, ↓Int.reduceLE, ↓reduceIte, hB, hE, hN, hb, hm, outPV, onN, s1, s2, s3, c1, c2, c3, List.nil_append, List.append_nil, List.cons_append, Bool.not_true, Bool.not_false, and_true, and_false, true_and, false_and, not_true_eq_false, not_false_eq_true, reduceCtorEq] <;> (first | done | rfl | ((repeat' split) <;> (change _ = true; kernel_rfl)))
          | false =>
            rcases Classical.propComplete (et = me) with he | he
            · skip
              cases e2 with
              | true =>
                rcases hX with rfl | ⟨xs, rfl⟩ <;> (refine dw_in (fn := Try.f19) rfl body19 (by simp) ?_) <;> simp -implicitDefEqProofs (maxSteps := 4000000) (disch := omega) only [go_sem, go_sem_proc, dr, Nat.min_def, ↓Nat.reduceBEq, ↓Nat.reduceEqDiff, ↓Nat.reduceLT, ↓Nat.reduceLeDiff, ↓Int.reduceEq, ↓Int.reduceLT, ↓Int.reduceLE, ↓reduceIte, hB, hE, hN, hb, hm, he, outPV, onN, s1, s2, s3, c1, c2, c3, List.nil_append, List.append_nil, List.cons_append, Bool.not_true, Bool.not_false, and_true, and_false, true_and, false_and, not_true_eq_false, not_false_eq_true, reduceCtorEq] <;> (first | done | rfl | ((repeat' split) <;> (change _ = true; kernel_rfl)))
              | false =>
                rcases hX with rfl | ⟨xs, rfl⟩ <;> (refine dw_in (fn := Try.f19) rfl body19 (by simp) ?_) <;> simp -implicitDefEqProofs (maxSteps := 4000000) (disch := omega) only [go_sem, go_sem_proc, dr, Nat.min_def, ↓Nat.reduceBEq, ↓Nat.reduceEqDiff, ↓Nat.reduceLT, ↓Nat.reduceLeDiff, ↓Int.reduceEq, ↓Int.reduceLT, ↓Int.reduceLE, ↓reduceIte, hB, hE, hN, hb, hm, he, outPV, onN, s1, s2, s3, c1, c2, c3, List.nil_append, List.append_nil, List.cons_append, Bool.not_true, Bool.not_false, and_true, and_false, true_and, false_and, not_true_eq_false, not_false_eq_true, reduceCtorEq] <;> (first | done | rfl | ((repeat' split) <;> (change _ = true; kernel_rfl)))
            · skip
              cases e2 with
              | true =>
                rcases hX with rfl | ⟨xs, rfl⟩ <;> (refine dw_in (fn := Try.f19) rfl body19 (by simp) ?_) <;> simp -implicitDefEqProofs (maxSteps := 4000000) (disch := omega) only [go_sem, go_sem_proc, dr, Nat.min_def, ↓Nat.reduceBEq, ↓Nat.reduceEqDiff, ↓Nat.reduceLT, ↓Nat.reduceLeDiff, ↓Int.reduceEq, ↓Int.reduceLT, ↓Int.reduceLE, ↓reduceIte, hB, hE, hN, hb, hm, he, outPV, onN, s1, s2, s3, c1, c2, c3, List.nil_append, List.append_nil, List.cons_append, Bool.not_true, Bool.not_false, and_true, and_false, true_and, false_and, not_true_eq_false, not_false_eq_true, reduceCtorEq] <;> (first | done | rfl | ((repeat' split) <;> (change _ = true; kernel_rfl)))
              | false =>
                rcases hX with rfl | ⟨xs, rfl⟩ <;> (refine dw_in (fn := Try.f19) rfl body19 (by simp) ?_) <;> simp -implicitDefEqProofs (maxSteps := 4000000) (disch := omega) only [go_sem, go_sem_proc, dr, Nat.min_def, ↓Nat.reduceBEq, ↓Nat.reduceEqDiff, ↓Nat.reduceLT, ↓Nat.reduceLeDiff, ↓Int.reduceEq, ↓Int.reduceLT, ↓Int.reduceLE, ↓reduceIte, hB, hE, hN, hb, hm, he, outPV, onN, s1, s2, s3, c1, c2, c3, List.nil_append, List.append_nil, List.cons_append, Bool.not_true, Bool.not_false, and_true, and_false, true_and, false_and, not_true_eq_false, not_false_eq_true, reduceCtorEq] <;> (first | done | rfl | ((repeat' split) <;> (change _ = true; kernel_rfl)))
        | false =>
          cases N with
          | true =>
            rcases hX with rfl | ⟨xs, rfl⟩ <;> (refine dw_in (fn := Try.f19) rfl body19 (by simp) ?_) <;> simp -implicitDefEqProofs (maxSteps := 4000000) (disch := omega) only [go_sem, go_sem_proc, dr, Nat.min_def, ↓Nat.reduceBEq, ↓Nat.reduceEqDiff, ↓Nat.reduceLT, ↓Nat.reduceLeDiff, ↓Int.reduceEq, ↓Int.reduceLT, ↓Int.reduceLE, ↓reduceIte, hB, hE, hN, hb, hm, outPV, onN, s1, s2, s3, c1, c2, c3, List.nil_append, List.append_nil, List.cons_append, Bool.not_true, Bool.not_false, and_true, and_false, true_and, false_and, not_true_eq_false, not_false_eq_true, reduceCtorEq] <;> (first | done | rfl | ((repeat' split) <;> (change _ = true; kernel_rfl)))
          | false =>
            rcases Classical.propComplete (et = me) with he | he
            · skip
              cases e2 with
              | true =>
                rcases hX with rfl | ⟨xs, rfl⟩ <;> (refine dw_in (fn := Try.f19) rfl body19 (by simp) ?_) <;> simp -implicitDefEqProofs (maxSteps := 4000000) (disch := omega) only [go_sem, go_sem_proc, dr, Nat.min_def, ↓Nat.reduceBEq, ↓Nat.reduceEqDiff, ↓Nat.reduceLT, ↓Nat.reduceLeDiff, ↓Int.reduceEq, ↓Int.reduceLT, ↓Int.reduceLE, ↓reduceIte, hB, hE, hN, hb, hm, he, outPV, onN, s1, s2, s3, c1, c2, c3, List.nil_append, List.append_nil, List.cons_append, Bool.not_true, Bool.not_false, and_true, and_false, true_and, false_and, not_true_eq_false, not_false_eq_true, reduceCtorEq] <;> (first | done | rfl | ((repeat' split) <;> (change _ = true; kernel_rfl)))
              | false =>
                rcases hX with rfl | ⟨xs, rfl⟩ <;> (refine dw_in (fn := Try.f19) rfl body19 (by simp) ?_) <;> simp -implicitDefEqProofs (maxSteps := 4000000) (disch := omega) only [go_sem, go_sem_proc, dr, Nat.min_def, ↓Nat.reduceBEq, ↓Nat.reduceEqDiff, ↓Nat.reduceLT, ↓Nat.reduceLeDiff, ↓Int.reduceEq, ↓Int.reduceLT, ↓Int.reduceLE, ↓reduceIte, hB, hE, hN, hb, hm, he, outPV, onN, s1, s2, s3, c1, c2, c3, List.nil_append, List.append_nil, List.cons_append, Bool.not_true, Bool.not_false, and_true, and_false, true_and, false_and, not_true_eq_false, not_false_eq_true, reduceCtorEq] <;> (first | done | rfl | ((repeat' split) <;> (change _ = true; kernel_rfl)))
            · skip
              cases e2 with
              | true =>
                rcases hX with rfl | ⟨xs, rfl⟩ <;> (refine dw_in (fn := Try.f19) rfl body19 (by simp) ?_) <;> simp -implicitDefEqProofs (maxSteps := 4000000) (disch := omega) only [go_sem, go_sem_proc, dr, Nat.min_def, ↓Nat.reduceBEq, ↓Nat.reduceEqDiff, ↓Nat.reduceLT, ↓Nat.reduceLeDiff, ↓Int.reduceEq, ↓Int.reduceLT, ↓Int.reduceLE, ↓reduceIte, hB, hE, hN, hb, hm, he, outPV, onN, s1, s2, s3, c1, c2, c3, List.nil_append, List.append_nil, List.cons_append, Bool.not_true, Bool.not_false, and_true, and_false, true_and, false_and, not_true_eq_false, not_false_eq_true, reduceCtorEq] <;> (first | done | rfl | ((repeat' split) <;> (change _ = true; kernel_rfl)))
              | false =>
                rcases hX with rfl | ⟨xs, rfl⟩ <;> (refine dw_in (fn := Try.f19) rfl body19 (by simp) ?_) <;> simp -implicitDefEqProofs (maxSteps := 4000000) (disch := omega) only [go_sem, go_sem_proc, dr, Nat.min_def, ↓Nat.reduceBEq, ↓Nat.reduceEqDiff, ↓Nat.reduceLT, ↓Nat.reduceLeDiff, ↓Int.reduceEq, ↓Int.reduceLT, ↓Int.reduceLE, ↓reduceIte, hB, hE, hN, hb, hm, he, outPV, onN, s1, s2, s3, c1, c2, c3, List.nil_append, List.append_nil, List.cons_append, Bool.not_true, Bool.not_false, and_true, and_false, true_and, false_and, not_true_eq_false, not_false_eq_true, reduceCtorEq] <;> (first | done | rfl | ((repeat' split) <;> (change _ = true; kernel_rfl)))
      | false =>
        rcases hX with rfl | ⟨xs, rfl⟩ <;> (refine dw_in (fn := Try.f19) rfl body19 (by simp) ?_) <;> simp -implicitDefEqProofs (maxSteps := 4000000) (disch := omega) only [go_sem, go_sem_proc, dr, Nat.min_def, ↓Nat.reduceBEq, ↓Nat.reduceEqDiff, ↓Nat.reduceLT, ↓Nat.reduceLeDiff, ↓Int.reduceEq, ↓Int.reduceLT, ↓Int.reduceLE, ↓reduceIte, hB, hE, hN, hb, hm, outPV, onN, s1, s2, s3, c1, c2, c3, List.nil_append, List.append_nil, List.cons_append, Bool.not_true, Bool.not_false, and_true, and_false, true_and, false_and, not_true_eq_false, not_false_eq_true, reduceCtorEq] <;> (first | done | rfl | ((repeat' split) <;> (change _ = true; kernel_rfl)))
    · skip
      cases mine with
      | true =>
        cases N with
        | true =>
          rcases hX with rfl | ⟨xs, rfl⟩ <;> (refine dw_in (fn := Try.f19) rfl body19 (by simp) ?_) <;> simp -implicitDefEqProofs (maxSteps := 4000000) (disch := omega) only [go_sem, go_sem_proc, dr, Nat.min_def, ↓Nat.reduceBEq, ↓Nat.reduceEqDiff, ↓Nat.reduceLT, ↓Nat.reduceLeDiff, ↓Int.reduceEq, ↓Int.reduceLT, ↓Int.reduceLE, ↓reduceIte, hB, hE, hN, hb, hm, outPV, onN, s1, s2, s3, c1, c2, c3, List.nil_append, List.append_nil, List.cons_append, Bool.not_true, Bool.not_false, and_true, and_false, true_and, false_and, not_true_eq_false, not_false_eq_true, reduceCtorEq] <;> (first | done | rfl | ((repeat' split) <;> (change _ = true; kernel_rfl)))
        | false =>
          rcases Classical.propComplete (et = me) with he | he
          · skip
            rcases hX with rfl | ⟨xs, rfl⟩ <;> (refine dw_in (fn := Try.f19) rfl body19 (by simp) ?_) <;> simp -implicitDefEqProofs (maxSteps := 4000000) (disch := omega) only [go_sem, go_sem_proc, dr, Nat.min_def, ↓Nat.reduceBEq, ↓Nat.reduceEqDiff, ↓Nat.reduceLT, ↓Nat.reduceLeDiff, ↓Int.reduceEq, ↓Int.reduceLT, ↓Int.reduceLE, ↓reduceIte, hB, hE, hN, hb, hm, he, outPV, onN, s1, s2, s3, c1, c2, c3, List.nil_append, List.append_nil, List.cons_append, Bool.not_true, Bool.not_false, and_true, and_false, true_and, false_and, not_true_eq_false, not_false_eq_true, reduceCtorEq] <;> (first | done | rfl | ((repeat' split) <;> (change _ = true; kernel_rfl)))
          · skip
            cases e2 with
            | true =>
              rcases hX with rfl | ⟨xs, rfl⟩ <;> (refine dw_in (fn := Try.f19) rfl body19 (by simp) ?_) <;> simp -implicitDefEqProofs (maxSteps := 4000000) (disch := omega) only [go_sem, go_sem_proc, dr, Nat.min_def, ↓Nat.reduceBEq, ↓Nat.reduceEqDiff, ↓Nat.reduceLT, ↓Nat.reduceLeDiff, ↓Int.reduceEq, ↓Int.reduceLT, ↓Int.reduceLE, ↓reduceIte, hB, hE, hN, hb, hm, he, outPV, onN, s1, s2, s3, c1, c2, c3, List.nil_append, List.append_nil, List.cons_append, Bool.not_true, Bool.not_false, and_true, and_false, true_and, false_and, not_true_eq_false, not_false_eq_true, reduceCtorEq] <;> (first | done | rfl | ((repeat' split) <;> (change _ = true; kernel_rfl)))
            | false =>
              rcases hX with rfl | ⟨xs, rfl⟩ <;> (refine dw_in (fn := Try.f19) rfl body19 (by simp) ?_) <;> simp -implicitDefEqProofs (maxSteps := 4000000) (disch := omega) only [go_sem, go_sem_proc, dr, Nat.min_def, ↓Nat.reduceBEq, ↓Nat.reduceEqDiff, ↓Nat.reduceLT, ↓Nat.reduceLeDiff, ↓Int.reduceEq, ↓Int.reduceLT, ↓Int.reduceLE, ↓reduceIte, hB, hE, hN, hb, hm, he, outPV, onN, s1, s2, s3, c1, c2, c3, List.nil_append, List.append_nil, List.cons_append, Bool.not_true, Bool.not_false, and_true, and_false, true_and, false_and, not_true_eq_false, not_false_eq_true, reduceCtorEq] <;> (first | done | rfl | ((repeat' split) <;> (change _ = true; kernel_rfl)))
      | false =>
        rcases hX with rfl | ⟨xs, rfl⟩ <;> (refine dw_in (fn := Try.f19) rfl body19 (by simp) ?_) <;> simp -implicitDefEqProofs (maxSteps := 4000000) (disch := omega) only [go_sem, go_sem_proc, dr, Nat.min_def, ↓Nat.reduceBEq, ↓Nat.reduceEqDiff, ↓Nat.reduceLT, ↓Nat.reduceLeDiff, ↓Int.reduceEq, ↓Int.reduceLT, ↓Int.reduceLE, ↓reduceIte, hB, hE, hN, hb, hm, outPV, onN, s1, s2, s3, c1, c2, c3, List.nil_append, List.append_nil, List.cons_append, Bool.not_true, Bool.not_false, and_true, and_false, true_and, false_and, not_true_eq_false, not_false_eq_true, reduceCtorEq] <;> (first | done | rfl | ((repeat' split) <;> (change _ = true; kernel_rfl)))
  · skip
    rcases Classical.propComplete (me = 0) with hm | hm
    · skip
      cases b1 with
      | true =>
        cases b2 with
        | true =>
          cases N with
          | true =>
            rcases hX with rfl | ⟨xs, rfl⟩ <;> (refine dw_in (fn := Try.f19) rfl body19 (by simp) ?_) <;> simp -implicitDefEqProofs (maxSteps := 4000000) (disch := omega) only [go_sem, go_sem_proc, dr, Nat.min_def, ↓Nat.reduceBEq, ↓Nat.reduceEqDiff, ↓Nat.reduceLT, ↓Nat.reduceLeDiff, ↓Int.reduceEq, ↓Int.reduceLT, ↓Int.reduceLE, ↓reduceIte, hB, hE, hN, hb, hm, outPV, onN, s1, s2, s3, c1, c2, c3, List.nil_append, List.append_nil, List.cons_append, Bool.not_true, Bool.not_false, and_true, and_false, true_and, false_and, not_true_eq_false, not_false_eq_true, reduceCtorEq] <;> (first | done | rfl | ((repeat' split) <;> (change _ = true; kernel_rfl)))
          | false =>
            rcases Classical.propComplete (et = me) with he | he
            · skip
              cases e2 with
              | true =>
                rcases hX with rfl | ⟨xs, rfl⟩ <;> (refine dw_in (fn := Try.f19) rfl body19 (by simp) ?_) <;> simp -implicitDefEqProofs (maxSteps := 4000000) (disch := omega) only [go_sem, go_sem_proc, dr, Nat.min_def, ↓Nat.reduceBEq, ↓Nat.reduceEqDiff, ↓Nat.reduceLT, ↓Nat.reduceLeDiff, ↓Int.reduceEq, ↓Int.reduceLT, ↓Int.reduceLE, ↓reduceIte, hB, hE, hN, hb, hm, he, outPV, onN, s1, s2, s3, c1, c2, c3, List.nil_append, List.append_nil, List.cons_append, Bool.not_true, Bool.not_false, and_true, and_false, true_and, false_and, not_true_eq_false, not_false_eq_true, reduceCtorEq] <;> (first | done | rfl | ((repeat' split) <;> (change _ = true; kernel_rfl)))
              | false =>
                rcases hX with rfl | ⟨xs, rfl⟩ <;> (refine dw_in (fn := Try.f19) rfl body19 (by simp) ?_) <;> simp -implicitDefEqProofs (maxSteps := 4000000) (disch := omega) only [go_sem, go_sem_proc, dr, Nat.min_def, ↓Nat.reduceBEq, ↓Nat.reduceEqDiff, ↓Nat.reduceLT, ↓Nat.reduceLeDiff, ↓Int.reduceEq, ↓Int.reduceLT, ↓Int.reduceLE, ↓reduceIte, hB, hE, hN, hb, hm, he, outPV, onN, s1, s2, s3, c1, c2, c3, List.nil_append, List.append_nil, List.cons_append, Bool.not_true, Bool.not_false, and_true, and_false, true_and, false_and, not_true_eq_false, not_false_eq_true, reduceCtorEq] <;> (first | done | rfl | ((repeat' split) <;> (change _ = true; kernel_rfl)))
            · skip
              cases e2 with
              | true =>
                rcases hX with rfl | ⟨xs, rfl⟩ <;> (refine dw_in (fn := Try.f19) rfl body19 (by simp) ?_) <;> simp -implicitDefEqProofs (maxSteps := 4000000) (disch := omega) only [go_sem, go_sem_proc, dr, Nat.min_def, ↓Nat.reduceBEq, ↓Nat.reduceEqDiff, ↓Nat.reduceLT, ↓Nat.reduceLeDiff, ↓Int.reduceEq, ↓Int.reduceLT, ↓Int.reduceLE, ↓reduceIte, hB, hE, hN, hb, hm, he, outPV, onN, s1, s2, s3, c1, c2, c3, List.nil_append, List.append_nil, List.cons_append, Bool.not_true, Bool.not_false, and_true, and_false, true_and, false_and, not_true_eq_false, not_false_eq_true, reduceCtorEq] <;> (first | done | rfl | ((repeat' split) <;> (change _ = true; kernel_rfl)))
              | false =>
                rcases hX with rfl | ⟨xs, rfl⟩ <;> (refine dw_in (fn := Try.f19) rfl body19 (by simp) ?_) <;> simp -implicitDefEqProofs (maxSteps := 4000000) (disch := omega) only [go_sem, go_sem_proc, dr, Nat.min_def, ↓Nat.reduceBEq, ↓Nat.reduceEqDiff, ↓Nat.reduceLT, ↓Nat.reduceLeDiff, ↓Int.reduceEq, ↓Int.reduceLT, ↓Int.reduceLE, ↓reduceIte, hB, hE, hN, hb, hm, he, outPV, onN, s1, s2, s3, c1, c2, c3, List.nil_append, List.append_nil, List.cons_append, Bool.not_true, Bool.not_false, and_true, and_false, true_and, false_and, not_true_eq_false, not_false_eq_true, reduceCtorEq] <;> (first | done | rfl | ((repeat' split) <;> (change _ = true; kernel_rfl)))
        | false =>
          cases N with
          | true =>
            rcases hX with rfl | ⟨xs, rfl⟩ <;> (refine dw_in (fn := Try.f19) rfl body19 (by simp) ?_) <;> simp -implicitDefEqProofs (maxSteps := 4000000) (disch := omega) only [go_sem, go_sem_proc, dr, Nat.min_def, ↓Nat.reduceBEq, ↓Nat.reduceEqDiff, ↓Nat.reduceLT, ↓Nat.reduceLeDiff, ↓Int.reduceEq, ↓Int.reduceLT, ↓Int.reduceLE, ↓reduceIte, hB, hE, hN, hb, hm, outPV, onN, s1, s2, s3, c1, c2, c3, List.nil_append, List.append_nil, List.cons_append, Bool.not_true, Bool.not_false, and_true, and_false, true_and, false_and, not_true_eq_false, not_false_eq_true, reduceCtorEq] <;> (first | done | rfl | ((repeat' split) <;> (change _ = true; kernel_rfl)))
          | false =>
            rcases Classical.propComplete (et = me) with he | he
            · skip
              cases e2 with
              | true =>
                rcases hX with rfl | ⟨xs, rfl⟩ <;> (refine dw_in (fn := Try.f19) rfl body19 (by simp) ?_) <;> simp -implicitDefEqProofs (maxSteps := 4000000) (disch := omega) only [go_sem, go_sem_proc, dr, Nat.min_def, ↓Nat.reduceBEq, ↓Nat.reduceEqDiff, ↓Nat.reduceLT, ↓Nat.reduceLeDiff, ↓Int.reduceEq, ↓Int.reduceLT, ↓Int.reduceLE, ↓reduceIte, hB, hE, hN, hb, hm, he, outPV, onN, s1, s2, s3, c1, c2, c3, List.nil_append, List.append_nil, List.cons_append, Bool.not_true, Bool.not_false, and_true, and_false, true_and, false_and, not_true_eq_false, not_false_eq_true, reduceCtorEq] <;> (first | done | rfl | ((repeat' split) <;> (change _ = true; kernel_rfl)))
              | false =>
                rcases hX with rfl | ⟨xs, rfl⟩ <;> (refine dw_in (fn := Try.f19) rfl body19 (by simp) ?_) <;> simp -implicitDefEqProofs (maxSteps := 4000000) (disch := omega) only [go_sem, go_sem_proc, dr, Nat.min_def, ↓Nat.reduceBEq, ↓Nat.reduceEqDiff, ↓Nat.reduceLT, ↓Nat.reduceLeDiff, ↓Int.reduceEq, ↓Int.reduceLT, ↓Int.reduceLE, ↓reduceIte, hB, hE, hN, hb, hm, he, outPV, onN, s1, s2, s3, c1, c2, c3, List.nil_append, List.append_nil, List.cons_append, Bool.not_true, Bool.not_false, and_true, and_false, true_and, false_and, not_true_eq_false, not_false_eq_true, reduceCtorEq] <;> (first | done | rfl | ((repeat' split) <;> (change _ = true; kernel_rfl)))
            · skip
              cases e2 with
              | true =>
                rcases hX with rfl | ⟨xs, rfl⟩ <;> (refine dw_in (fn := Try.f19) rfl body19 (by simp) ?_) <;> simp -implicitDefEqProofs (maxSteps := 4000000) (disch := omega) only [go_sem, go_sem_proc, dr, Nat.min_def, ↓Nat.reduceBEq, ↓Nat.reduceEqDiff, ↓Nat.reduceLT, ↓Nat.reduceLeDiff, ↓Int.reduceEq, ↓Int.reduceLT, ↓Int.reduceLE, ↓reduceIte, hB, hE, hN, hb, hm, he, outPV, onN, s1, s2, s3, c1, c2, c3, List.nil_append, List.append_nil, List.cons_append, Bool.not_true, Bool.not_false, and_true, and_false, true_and, false_and, not_true_eq_false, not_false_eq_true, reduceCtorEq] <;> (first | done | rfl | ((repeat' split) <;> (change _ = true; kernel_rfl)))
              | false =>
                rcases hX with rfl | ⟨xs, rfl⟩ <;> (refine dw_in (fn := Try.f19) rfl body19 (by simp) ?_) <;> simp -implicitDefEqProofs (maxSteps := 4000000) (disch := omega) only [go_sem, go_sem_proc, dr, Nat.min_def, ↓Nat.reduceBEq, ↓Nat.reduceEqDiff, ↓Nat.reduceLT, ↓Nat.reduceLeDiff, ↓Int.reduceEq, ↓Int.reduceLT, ↓Int.reduceLE, ↓reduceIte, hB, hE, hN, hb, hm, he, outPV, onN, s1, s2, s3, c1, c2, c3, List.nil_append, List.append_nil, List.cons_append, Bool.not_true, Bool.not_false, and_true, and_false, true_and, false_and, not_true_eq_false, not_false_eq_true, reduceCtorEq] <;> (first | done | rfl | ((repeat' split) <;> (change _ = true; kernel_rfl)))
      | false =>
        rcases hX with rfl | ⟨xs, rfl⟩ <;> (refine dw_in (fn := Try.f19) rfl body19 (by simp) ?_) <;> simp -implicitDefEqProofs (maxSteps := 4000000) (disch := omega) only [go_sem, go_sem_proc, dr, Nat.min_def, ↓Nat.reduceBEq, ↓Nat.reduceEqDiff, ↓Nat.reduceLT, ↓Nat.reduceLeDiff, ↓Int.reduceEq, ↓Int.reduceLT, ↓Int.reduceLE, ↓reduceIte, hB, hE, hN, hb, hm, outPV, onN, s1, s2, s3, c1, c2, c3, List.nil_append, List.append_nil, List.cons_append, Bool.not_true, Bool.not_false, and_true, and_false, true_and, false_and, not_true_eq_false, not_false_eq_true, reduceCtorEq] <;> (first | done | rfl | ((repeat' split) <;> (change _ = true; kernel_rfl)))
    · skip
      cases b1 with
      | true =>
        cases b2 with
        | true =>
          cases N with
          | true =>
            rcases hX with rfl | ⟨xs, rfl⟩ <;> (refine dw_in (fn := Try.f19) rfl body19 (by simp) ?_) <;> simp -implicitDefEqProofs (maxSteps := 4000000) (disch := omega) only [go_sem, go_sem_proc, dr, Nat.min_def, ↓Nat.reduceBEq, ↓Nat.reduceEqDiff, ↓Nat.reduceLT, ↓Nat.reduceLeDiff, ↓Int.reduceEq, ↓Int.reduceLT, ↓Int.reduceLE, ↓reduceIte, hB, hE, hN, hb, hm, outPV, onN, s1, s2, s3, c1, c2, c3, List.nil_append, List.append_nil, List.cons_append, Bool.not_true, Bool.not_false, and_true, and_false, true_and, false_and, not_true_eq_false, not_false_eq_true, reduceCtorEq] <;> (first | done | rfl | ((repeat' split) <;> (change _ = true; kernel_rfl)))
          | false =>
            rcases Classical.propComplete (et = me) with he | he
            · skip
              rcases hX with rfl | ⟨xs, rfl⟩ <;> (refine dw_in (fn := Try.f19) rfl body19 (by simp) ?_) <;> simp -implicitDefEqProofs (maxSteps := 4000000) (disch := omega) only [go_sem, go_sem_proc, dr, Nat.min_def, ↓Nat.reduceBEq, ↓Nat.reduceEqDiff, ↓Nat.reduceLT, ↓Nat.reduceLeDiff, ↓Int.reduceEq, ↓Int.reduceLT, ↓Int.reduceLE, ↓reduceIte, hB, hE, hN, hb, hm, he, outPV, onN, s1, s2, s3, c1, c2, c3, List.nil_append, List.append_nil, List.cons_append, Bool.not_true, Bool.not_false, and_true, and_false, true_and, false_and, not_true_eq_false, not_false_eq_true, reduceCtorEq] <;> (first | done | rfl | ((repeat' split) <;> (change _ = true; kernel_rfl)))
            · skip
              cases e2 with
              | true =>
                rcases hX with rfl | ⟨xs, rfl⟩ <;> (refine dw_in (fn := Try.f19) rfl body19 (by simp) ?_) <;> simp -implicitDefEqProofs (maxSteps := 4000000) (disch := omega) only [go_sem, go_sem_proc, dr, Nat.min_def, ↓Nat.reduceBEq, ↓Nat.reduceEqDiff, ↓Nat.reduceLT, ↓Nat.reduceLeDiff, ↓Int.reduceEq, ↓Int.reduceLT, ↓Int.reduceLE, ↓reduceIte, hB, hE, hN, hb, hm, he, outPV, onN, s1, s2, s3, c1, c2, c3, List.nil_append, List.append_nil, List.cons_append, Bool.not_true, Bool.not_false, and_true, and_false, true_and, false_and, not_true_eq_false, not_false_eq_true, reduceCtorEq] <;> (first | done | rfl | ((repeat' split) <;> (change _ = true; kernel_rfl)))
              | false =>
                rcases hX with rfl | ⟨xs, rfl⟩ <;> (refine dw_in (fn := Try.f19) rfl body19 (by simp) ?_) <;> simp -implicitDefEqProofs (maxSteps := 4000000) (disch := omega) only [go_sem, go_sem_proc, dr, Nat.min_def, ↓Nat.reduceBEq, ↓Nat.reduceEqDiff, ↓Nat.reduceLT, ↓Nat.reduceLeDiff, ↓Int.reduceEq, ↓Int.reduceLT, ↓Int.reduceLE, ↓reduceIte, hB, hE, hN, hb, hm, he, outPV, onN, s1, s2, s3, c1, c2, c3, List.nil_append, List.append_nil, List.cons_append, Bool.not_true, Bool.not_false, and_true, and_false, true_and, false_and, not_true_eq_false, not_false_eq_true, reduceCtorEq] <;> (first | done | rfl | ((repeat' split) <;> (change _ = true; kernel_rfl)))
        | false =>
          cases N with
          | true =>
            rcases hX with rfl | ⟨xs, rfl⟩ <;> (refine dw_in (fn := Try.f19) rfl body19 (by simp) ?_) <;> simp -implicitDefEqProofs (maxSteps := 4000000) (disch := omega) only [go_sem, go_sem_proc, dr, Nat.min_def, ↓Nat.reduceBEq, ↓Nat.reduceEqDiff, ↓Nat.reduceLT, ↓Nat.reduceLeDiff, ↓Int.reduceEq, ↓Int.reduceLT, ↓Int.reduceLE, ↓reduceIte, hB, hE, hN, hb, hm, outPV, onN, s1, s2, s3, c1, c2, c3, List.nil_append, List.append_nil, List.cons_append, Bool.not_true, Bool.not_false, and_true, and_false, true_and, false_and, not_true_eq_false, not_false_eq_true, reduceCtorEq] <;> (first | done | rfl | ((repeat' split) <;> (change _ = true; kernel_rfl)))
          | false =>
            rcases Classical.propComplete (et = me) with he | he
            · skip
              rcases hX with rfl | ⟨xs, rfl⟩ <;> (refine dw_in (fn := Try.f19) rfl body19 (by simp) ?_) <;> simp -implicitDefEqProofs (maxSteps := 4000000) (disch := omega) only [go_sem, go_sem_proc, dr, Nat.min_def, ↓Nat.reduceBEq, ↓Nat.reduceEqDiff, ↓Nat.reduceLT, ↓Nat.reduceLeDiff, ↓Int.reduceEq, ↓Int.reduceLT, ↓Int.reduceLE, ↓reduceIte, hB, hE, hN, hb, hm, he, outPV, onN, s1, s2, s3, c1, c2, c3, List.nil_append, List.append_nil, List.cons_append, Bool.not_true, Bool.not_false, and_true, and_false, true_and, false_and, not_true_eq_false, not_false_eq_true, reduceCtorEq] <;> (first | done | rfl | ((repeat' split) <;> (change _ = true; kernel_rfl)))
            · skip
              cases e2 with
              | true =>
                rcases hX with rfl | ⟨xs, rfl⟩ <;> (refine dw_in (fn := Try.f19) rfl body19 (by simp) ?_) <;> simp -implicitDefEqProofs (maxSteps := 4000000) (disch := omega) only [go_sem, go_sem_proc, dr, Nat.min_def, ↓Nat.reduceBEq, ↓Nat.reduceEqDiff, ↓Nat.reduceLT, ↓Nat.reduceLeDiff, ↓Int.reduceEq, ↓Int.reduceLT, ↓Int.reduceLE, ↓reduceIte, hB, hE, hN, hb, hm, he, outPV, onN, s1, s2, s3, c1, c2, c3, List.nil_append, List.append_nil, List.cons_append, Bool.not_true, Bool.not_false, and_true, and_false, true_and, false_and, not_true_eq_false, not_false_eq_true, reduceCtorEq] <;> (first | done | rfl | ((repeat' split) <;> (change _ = true; kernel_rfl)))
              | false =>
                rcases hX with rfl | ⟨xs, rfl⟩ <;> (refine dw_in (fn := Try.f19) rfl body19 (by simp) ?_) <;> simp -implicitDefEqProofs (maxSteps := 4000000) (disch := omega) only [go_sem, go_sem_proc, dr, Nat.min_def, ↓Nat.reduceBEq, ↓Nat.reduceEqDiff, ↓Nat.reduceLT, ↓Nat.reduceLeDiff, ↓Int.reduceEq, ↓Int.reduceLT, ↓Int.reduceLE, ↓reduceIte, hB, hE, hN, hb, hm, he, outPV, onN, s1, s2, s3, c1, c2, c3, List.nil_append, List.append_nil, List.cons_append, Bool.not_true, Bool.not_false, and_true, and_false, true_and, false_and, not_true_eq_false, not_false_eq_true, reduceCtorEq] <;> (first | done | rfl | ((repeat' split) <;> (change _ = true; kernel_rfl)))
      | false =>
        rcases hX with rfl | ⟨xs, rfl⟩ <;> (refine dw_in (fn := Try.f19) rfl body19 (by simp) ?_) <;> simp -implicitDefEqProofs (maxSteps := 4000000) (disch := omega) only [go_sem, go_sem_proc, dr, Nat.min_def, ↓Nat.reduceBEq, ↓Nat.reduceEqDiff, ↓Nat.reduceLT, ↓Nat.reduceLeDiff, ↓Int.reduceEq, ↓Int.reduceLT, ↓Int.reduceLE, ↓reduceIte, hB, hE, hN, hb, hm, outPV, onN, s1, s2, s3, c1, c2, c3, List.nil_append, List.append_nil, List.cons_append, Bool.not_true, Bool.not_false, and_true, and_false, true_and, false_and, not_true_eq_false, not_false_eq_true, reduceCtorEq] <;> (first | done | rfl | ((repeat' split) <;> (change _ = true; kernel_rfl)))
end Go.Proofs.Ytknapjbdgpjdjaa.D
