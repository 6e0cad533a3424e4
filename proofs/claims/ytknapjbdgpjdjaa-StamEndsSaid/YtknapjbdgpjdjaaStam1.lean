/- From when to when: what stam's functions come to. -/
import Derived.Test.YtknapjbdgpjdjaaDenL2
namespace Go.Proofs.Ytknapjbdgpjdjaa.D
open Go Go.Den
set_option linter.unusedSimpArgs false
set_option linter.unusedVariables false
set_option maxRecDepth 20000
set_option maxHeartbeats 8000000
structure Tx where
  id : Int
  st : Int
  b : Int
  e : Int
def Tx.pv (x : Tx) : List PV := [.int .i64 x.id, .int .i64 x.st, .int .i64 x.b, .int .i64 x.e]
def IsTx (X : PV) (L : List Tx) : Prop := (X = .sl 4 (L.map Tx.pv) ∨ (X = .nils ∧ L = [])) ∧ L.length ≤ 1000
def stateN (k : Int) : List Tx → Tx
  | [] => ⟨0, 0, 0, 0⟩
  | x :: r => if x.id = k then x else stateN k r
def idxK (k : Int) : List Tx → Nat → Int
  | [], _ => -1
  | x :: r, i => if x.id = k then i else idxK k r (i + 1)
theorem idxK_cases (k : Int) : ∀ (L : List Tx) (i : Nat), (idxK k L i = -1 ∧ stateN k L = ⟨0, 0, 0, 0⟩) ∨ ∃ j x, L[j]? = some x ∧ idxK k L i = ((i + j : Nat) : Int) ∧ stateN k L = x ∧ x.id = k
  | [], i => .inl ⟨rfl, rfl⟩
  | x :: r, i => by
    unfold idxK stateN
    by_cases h : x.id = k
    · rw [if_pos h, if_pos h]
      exact .inr ⟨0, x, rfl, rfl, rfl, h⟩
    · rw [if_neg h, if_neg h]
      rcases idxK_cases k r (i + 1) with h1 | ⟨j, y, h1, h2, h3⟩
      · exact .inl h1
      · exact .inr ⟨j + 1, y, h1, by rw [h2]; congr 1; omega, h3⟩
theorem State1_spec {k : Int} {x : Tx} : dw E 23 [.agg [.int .i64 x.id, .int .i64 x.st, .int .i64 x.b, .int .i64 x.e], .pc [.int .i64 k]] [] = some (.bool (decide (x.id = k)), []) := by
  refine dw_in (fn := Try.f23) rfl body23 (by simp) ?_
  simp -implicitDefEqProofs (maxSteps := 4000000) (disch := omega) only [go_sem, go_sem_proc, dr, Nat.min_def, ↓Nat.reduceBEq, ↓Nat.reduceEqDiff, ↓Nat.reduceLT, ↓Nat.reduceLeDiff, ↓Int.reduceEq, ↓Int.reduceLT, ↓Int.reduceLE, ↓reduceIte]
theorem Index_tx {k : Int} {L : List Tx} (hl : L.length ≤ 1000) : dw E 22 [.sl 4 (L.map Tx.pv), .fn 23 [.pc [.int .i64 k]]] [] = some (.int .i64 (idxK k L 0), []) := by
  refine dw_in (fn := Try.f22) rfl body22 (by simp) ?_
  simp -implicitDefEqProofs (maxSteps := 4000000) (disch := omega) only [go_sem, go_sem_proc, dr, Nat.min_def, ↓Nat.reduceBEq, ↓Nat.reduceEqDiff, ↓Nat.reduceLT, ↓Nat.reduceLeDiff, ↓Int.reduceEq, ↓Int.reduceLT, ↓Int.reduceLE, ↓reduceIte]
  refine runs_any (fun i : Nat => (⟨[(0, .sl 4 (L.map Tx.pv)), (1, .fn 23 [.pc [.int .i64 k]]), (7, .int .i64 L.length), (8, .int .i64 i)], [], 1⟩ : St)) (fun i => L.length - i) 0 (fun i => i ≤ L.length ∧ idxK k L 0 = idxK k (L.drop i) i) ⟨Nat.zero_le _, rfl⟩ ?_ ?_
  · simp -implicitDefEqProofs (maxSteps := 4000000) (disch := omega) only [go_sem, go_sem_proc, dr, Nat.min_def, ↓Nat.reduceBEq, ↓Nat.reduceEqDiff, ↓Nat.reduceLT, ↓Nat.reduceLeDiff, ↓Int.reduceEq, ↓Int.reduceLT, ↓Int.reduceLE, ↓reduceIte]
  · rintro i ⟨hi, he⟩
    by_cases hlt : i < L.length
    · obtain ⟨x, hx, _, _⟩ := take_get hlt
      have hd : L.drop i = x :: L.drop (i + 1) := by rw [List.drop_eq_getElem_cons hlt, (List.getElem?_eq_some_iff.1 hx).2]
      rw [hd, idxK] at he
      have hP := State1_spec (k := k) (x := x)
      by_cases hk : x.id = k
      · rw [if_pos hk] at he
        rw [decide_eq_true hk] at hP
        clear hk hd
        simp -implicitDefEqProofs (maxSteps := 4000000) (disch := omega) only [go_sem, go_sem_proc, dr, Nat.min_def, ↓Nat.reduceBEq, ↓Nat.reduceEqDiff, ↓Nat.reduceLT, ↓Nat.reduceLeDiff, ↓Int.reduceEq, ↓Int.reduceLT, ↓Int.reduceLE, ↓reduceIte, hx, Tx.pv, hP, he]
      · rw [if_neg hk] at he
        rw [decide_eq_false hk] at hP
        clear hk hd
        simp -implicitDefEqProofs (maxSteps := 4000000) (disch := omega) only [go_sem, go_sem_proc, dr, Nat.min_def, ↓Nat.reduceBEq, ↓Nat.reduceEqDiff, ↓Nat.reduceLT, ↓Nat.reduceLeDiff, ↓Int.reduceEq, ↓Int.reduceLT, ↓Int.reduceLE, ↓reduceIte, hx, Tx.pv, hP]
        exact ⟨i + 1, rfl, ⟨hlt, he⟩, by omega⟩
    · have hd : L.drop i = [] := List.drop_eq_nil_of_le (by omega)
      rw [hd, idxK] at he
      simp -implicitDefEqProofs (maxSteps := 4000000) (disch := omega) only [go_sem, go_sem_proc, dr, Nat.min_def, ↓Nat.reduceBEq, ↓Nat.reduceEqDiff, ↓Nat.reduceLT, ↓Nat.reduceLeDiff, ↓Int.reduceEq, ↓Int.reduceLT, ↓Int.reduceLE, ↓reduceIte, he]
theorem Index_nil {k : Int} : dw E 22 [.nils, .fn 23 [.pc [.int .i64 k]]] [] = some (.int .i64 (-1), []) := by
  refine dw_in (fn := Try.f22) rfl body22 (by simp) ?_
  simp -implicitDefEqProofs (maxSteps := 4000000) (disch := omega) only [go_sem, go_sem_proc, dr, Nat.min_def, ↓Nat.reduceBEq, ↓Nat.reduceEqDiff, ↓Nat.reduceLT, ↓Nat.reduceLeDiff, ↓Int.reduceEq, ↓Int.reduceLT, ↓Int.reduceLE, ↓reduceIte]
  refine runs_for (fun i : Nat => (⟨[(0, .nils), (1, .fn 23 [.pc [.int .i64 k]]), (7, .int .i64 0), (8, .int .i64 i)], [], 1⟩ : St)) 0 ?_ (fun i h => absurd h (Nat.not_lt_zero i)) ?_
  · simp -implicitDefEqProofs (maxSteps := 4000000) (disch := omega) only [go_sem, go_sem_proc, dr, Nat.min_def, ↓Nat.reduceBEq, ↓Nat.reduceEqDiff, ↓Nat.reduceLT, ↓Nat.reduceLeDiff, ↓Int.reduceEq, ↓Int.reduceLT, ↓Int.reduceLE, ↓reduceIte]
  · simp -implicitDefEqProofs (maxSteps := 4000000) (disch := omega) only [go_sem, go_sem_proc, dr, Nat.min_def, ↓Nat.reduceBEq, ↓Nat.reduceEqDiff, ↓Nat.reduceLT, ↓Nat.reduceLeDiff, ↓Int.reduceEq, ↓Int.reduceLT, ↓Int.reduceLE, ↓reduceIte]
theorem State_spec {k : Int} {X : PV} {L : List Tx} (h : IsTx X L) : dw E 18 [.int .i64 k, X] [] = some (.agg [.int .i64 (stateN k L).id, .int .i64 (stateN k L).st, .int .i64 (stateN k L).b, .int .i64 (stateN k L).e], []) := by
  obtain ⟨h | ⟨rfl, rfl⟩, hl⟩ := h
  · subst h
    have hI := Index_tx (k := k) hl
    refine dw_in (fn := Try.f18) rfl body18 (by simp) ?_
    rcases idxK_cases k L 0 with ⟨h1, h2⟩ | ⟨j, x, h1, h2, h3, _⟩
    · rw [h1] at hI
      simp -implicitDefEqProofs (maxSteps := 4000000) (disch := omega) only [go_sem, go_sem_proc, dr, Nat.min_def, ↓Nat.reduceBEq, ↓Nat.reduceEqDiff, ↓Nat.reduceLT, ↓Nat.reduceLeDiff, ↓Int.reduceEq, ↓Int.reduceLT, ↓Int.reduceLE, ↓reduceIte, hI, h2]
    · rw [h2, Nat.zero_add] at hI
      have hj := (List.getElem?_eq_some_iff.1 h1).1
      simp -implicitDefEqProofs (maxSteps := 4000000) (disch := omega) only [go_sem, go_sem_proc, dr, Nat.min_def, ↓Nat.reduceBEq, ↓Nat.reduceEqDiff, ↓Nat.reduceLT, ↓Nat.reduceLeDiff, ↓Int.reduceEq, ↓Int.reduceLT, ↓Int.reduceLE, ↓reduceIte, hI, h1, h3, Tx.pv]
  · refine dw_in (fn := Try.f18) rfl body18 (by simp) ?_
    simp -implicitDefEqProofs (maxSteps := 4000000) (disch := omega) only [go_sem, go_sem_proc, dr, Nat.min_def, ↓Nat.reduceBEq, ↓Nat.reduceEqDiff, ↓Nat.reduceLT, ↓Nat.reduceLeDiff, ↓Int.reduceEq, ↓Int.reduceLT, ↓Int.reduceLE, ↓reduceIte, Index_nil, stateN]
theorem Never_spec {t a : Int} : dw E 21 [.agg [.int .i64 t, .int .i64 a]] [] = some (.bool (decide (t = 0) && decide (a = 0)), []) := by
  refine dw_in (fn := Try.f21) rfl body21 (by simp) ?_
  simp -implicitDefEqProofs (maxSteps := 4000000) (disch := omega) only [go_sem, go_sem_proc, dr, Nat.min_def, ↓Nat.reduceBEq, ↓Nat.reduceEqDiff, ↓Nat.reduceLT, ↓Nat.reduceLeDiff, ↓Int.reduceEq, ↓Int.reduceLT, ↓Int.reduceLE, ↓reduceIte]
def isN (x : Tx) (at' : Int) : Bool := (decide (x.st = 2) || decide (x.st = 3)) && decide (x.e ≤ at')
def holdsN (t a at' : Int) (L : List Tx) : Bool × Bool :=
  if t = 0 then (decide (a ≤ at'), false) else (isN (stateN t L) at', isN (stateN t L) at' && decide ((stateN t L).st = 2))
theorem holds_spec {t a at' : Int} {X : PV} {L : List Tx} (h : IsTx X L) : dw E 24 [.agg [.int .i64 t, .int .i64 a], .int .i64 at', X] [] = some (.tup [.bool (holdsN t a at' L).1, .bool (holdsN t a at' L).2], []) := by
  have hS := State_spec (k := t) h
  have hX : X = .nils ∨ ∃ xs, X = .sl 4 xs := by
    obtain ⟨h | ⟨h, _⟩, _⟩ := h
    · exact .inr ⟨_, h⟩
    · exact .inl h
  clear h
  unfold holdsN isN
  by_cases h0 : t = 0
  · subst h0
    rw [if_pos rfl]
    refine dw_in (fn := Try.f24) rfl body24 (by simp) ?_
    rcases hX with rfl | ⟨xs, rfl⟩ <;> simp -implicitDefEqProofs (maxSteps := 4000000) (disch := omega) only [go_sem, go_sem_proc, dr, Nat.min_def, ↓Nat.reduceBEq, ↓Nat.reduceEqDiff, ↓Nat.reduceLT, ↓Nat.reduceLeDiff, ↓Int.reduceEq, ↓Int.reduceLT, ↓Int.reduceLE, ↓reduceIte]
  · rw [if_neg h0]
    obtain ⟨x, hx⟩ : ∃ x, stateN t L = x := ⟨_, rfl⟩
    rw [hx] at hS ⊢
    clear hx
    obtain ⟨i, st, b, e⟩ := x
    dsimp only at hS ⊢
    have h0 := eq_false h0
    by_cases h2 : st = 2
    · subst h2
      rcases Classical.propComplete (e ≤ at') with j1 | j1 <;> rcases hX with rfl | ⟨xs, rfl⟩ <;> (refine dw_in (fn := Try.f24) rfl body24 (by simp) ?_) <;> simp -implicitDefEqProofs (maxSteps := 4000000) (disch := omega) only [go_sem, go_sem_proc, dr, Nat.min_def, ↓Nat.reduceBEq, ↓Nat.reduceEqDiff, ↓Nat.reduceLT, ↓Nat.reduceLeDiff, ↓Int.reduceEq, ↓Int.reduceLT, ↓Int.reduceLE, ↓reduceIte, hS, h0, j1, decide_true, decide_false, Bool.true_or, Bool.false_or, Bool.true_and, Bool.false_and, Bool.and_true, Bool.and_false] <;> (first | done | ((repeat' split) <;> (change _ = true; kernel_rfl)))
    · have h2 := eq_false h2
      by_cases h3 : st = 3
      · subst h3
        rcases Classical.propComplete (e ≤ at') with j1 | j1 <;> rcases hX with rfl | ⟨xs, rfl⟩ <;> (refine dw_in (fn := Try.f24) rfl body24 (by simp) ?_) <;> simp -implicitDefEqProofs (maxSteps := 4000000) (disch := omega) only [go_sem, go_sem_proc, dr, Nat.min_def, ↓Nat.reduceBEq, ↓Nat.reduceEqDiff, ↓Nat.reduceLT, ↓Nat.reduceLeDiff, ↓Int.reduceEq, ↓Int.reduceLT, ↓Int.reduceLE, ↓reduceIte, hS, h0, j1, decide_true, decide_false, Bool.true_or, Bool.false_or, Bool.true_and, Bool.false_and, Bool.and_true, Bool.and_false, Int.reduceEq] <;> (first | done | ((repeat' split) <;> (change _ = true; kernel_rfl)))
      · have h3 := eq_false h3
        rcases hX with rfl | ⟨xs, rfl⟩ <;> (refine dw_in (fn := Try.f24) rfl body24 (by simp) ?_) <;> simp -implicitDefEqProofs (maxSteps := 4000000) (disch := omega) only [go_sem, go_sem_proc, dr, Nat.min_def, ↓Nat.reduceBEq, ↓Nat.reduceEqDiff, ↓Nat.reduceLT, ↓Nat.reduceLeDiff, ↓Int.reduceEq, ↓Int.reduceLT, ↓Int.reduceLE, ↓reduceIte, hS, h0, h2, h3, decide_true, decide_false, Bool.true_or, Bool.false_or, Bool.or_false, Bool.true_and, Bool.false_and, Bool.and_true, Bool.and_false] <;> (first | done | ((repeat' split) <;> (change _ = true; kernel_rfl)))
end Go.Proofs.Ytknapjbdgpjdjaa.D
