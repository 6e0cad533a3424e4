/- One form: how it is told, and the code's parts below it. -/
import Derived.Test.YtjhdickfkpcccaaPred2
import Derived.Test.YtjhdickfkpcccaaDenL2
namespace Go.Proofs.Ytjhdickfkpcccaa.D
open Go Go.Den
set_option linter.unusedSimpArgs false
set_option linter.unusedVariables false
set_option maxRecDepth 20000
set_option maxHeartbeats 4000000
abbrev Cj := Bool × List Prd
abbrev Al := List Cj
def cv (c : Cj) : List PV := [pl c.1 c.2]
def catN (cs : List Cj) : List Prd := cs.flatMap (·.2)
def crossN (a b : Al) : Al := a.flatMap fun x => b.map fun y => (false, x.2 ++ y.2)
def okLen (a : Al) : Bool := a.all fun x => decide ((x.2.length : Int) ≤ 32)
def eitherN (a b : Al × Bool) : Al × Bool := (a.1 ++ b.1, (a.2 && b.2) && decide (((a.1 ++ b.1).length : Int) ≤ 32))
def bothN (a b : Al × Bool) : Al × Bool := if (a.2 && b.2) && decide ((a.1.length : Int) * b.1.length ≤ 32) then (crossN a.1 b.1, okLen (crossN a.1 b.1)) else ([], false)
/-- what stands for a list of such, handed in; told -/
def IsL (lf : PV) (A : Al) : Prop := (lf = .nils ∧ A = []) ∨ lf = .sl 1 (A.map cv)
def IsR (lf : PV) (A : Al) : Prop := (lf = .nils ∧ A = []) ∨ lf = .nr 39 1 (A.map cv)
def lenI : PV → Int | .sl _ xs => xs.length | _ => 0
def rowsI : PV → List (List PV) | .sl _ xs => xs | _ => []
theorem catN_take {cs : List Cj} {i : Nat} {c : Cj} (h : cs[i]? = some c) : catN (cs.take (i + 1)) = catN (cs.take i) ++ c.2 := by
  obtain ⟨hi, hc⟩ := List.getElem?_eq_some_iff.1 h
  rw [List.take_succ_eq_append_getElem hi, hc, catN, catN, List.flatMap_append, List.flatMap_cons, List.flatMap_nil, List.append_nil]
theorem catN_le (cs : List Cj) (i : Nat) : (catN (cs.take i)).length ≤ (catN cs).length := by
  have h : catN cs = catN (cs.take i) ++ catN (cs.drop i) := by unfold catN; rw [← List.flatMap_append, List.take_append_drop]
  rw [h, List.length_append]
  omega
theorem growF_of {e : TypeId} {sz bytes : Nat} {n : Int} (h : 0 ≤ n) (h2 : n * (bytes + 1) ≤ 70368744177664) : growF e sz bytes [.nils, .int .i64 n] = some (.nr e sz []) := by
  show (if 0 ≤ n ∧ n * (bytes + 1) ≤ 70368744177664 then some (PV.nr e sz []) else none) = _
  rw [if_pos ⟨h, h2⟩]
theorem catN_nil : catN [] = [] := rfl
theorem ConcatP_spec {cs : List Cj} (hn : cs.length ≤ 1000) (ht : (catN cs).length ≤ 1000000) : dw E 43 [.sl 1 (cs.map cv)] [] =
    some (.nr 41 8 ((catN cs).map Prd.pv), []) := by
  refine dw_in (fn := Try.f43) rfl body43 (by simp) ?_
  simp -implicitDefEqProofs (maxSteps := 4000000) (disch := omega) only [go_sem, go_sem_proc, dr, Nat.min_def, ↓Nat.reduceBEq, ↓Nat.reduceEqDiff, ↓Nat.reduceLT, ↓Nat.reduceLeDiff, ↓Int.reduceEq, ↓Int.reduceLT, ↓Int.reduceLE, ↓reduceIte]
  refine runs_for (fun i : Nat => (⟨[(0, .sl 1 (cs.map cv)), (3, .int .i64 (catN (cs.take i)).length), (9, .sl 1 (cs.map cv)), (10, .int .i64 cs.length), (11, .int .i64 i)], [], 1⟩ : St)) cs.length ?_ ?_ ?_
  · simp -implicitDefEqProofs (maxSteps := 4000000) (disch := omega) only [go_sem, go_sem_proc, dr, Nat.min_def, ↓Nat.reduceBEq, ↓Nat.reduceEqDiff, ↓Nat.reduceLT, ↓Nat.reduceLeDiff, ↓Int.reduceEq, ↓Int.reduceLT, ↓Int.reduceLE, ↓reduceIte, catN_nil]
  · intro i hi
    obtain ⟨c, hc, _, _⟩ := take_get hi
    have h1 := catN_take hc
    have h2 := catN_le cs (i + 1)
    rw [h1, List.length_append] at h2
    simp -implicitDefEqProofs (maxSteps := 4000000) (disch := omega) only [go_sem, go_sem_proc, dr, Nat.min_def, ↓Nat.reduceBEq, ↓Nat.reduceEqDiff, ↓Nat.reduceLT, ↓Nat.reduceLeDiff, ↓Int.reduceEq, ↓Int.reduceLT, ↓Int.reduceLE, ↓reduceIte, hc, h1, cv]
  · simp -implicitDefEqProofs (maxSteps := 4000000) (disch := omega) only [go_sem, go_sem_proc, dr, Nat.min_def, ↓Nat.reduceBEq, ↓Nat.reduceEqDiff, ↓Nat.reduceLT, ↓Nat.reduceLeDiff, ↓Int.reduceEq, ↓Int.reduceLT, ↓Int.reduceLE, ↓reduceIte, take_all, growF_of]
    refine runs_for (fun i : Nat => (⟨[(6, .h 2097536), (25, .sl 1 (cs.map cv)), (26, .int .i64 cs.length), (27, .int .i64 i)], [(2097536, some ⟨true, .row 41 8 ((catN (cs.take i)).map Prd.pv)⟩)], 1⟩ : St)) cs.length ?_ ?_ ?_
    · simp -implicitDefEqProofs (maxSteps := 4000000) (disch := omega) only [go_sem, go_sem_proc, dr, Nat.min_def, ↓Nat.reduceBEq, ↓Nat.reduceEqDiff, ↓Nat.reduceLT, ↓Nat.reduceLeDiff, ↓Int.reduceEq, ↓Int.reduceLT, ↓Int.reduceLE, ↓reduceIte, catN_nil]
    · intro i hi
      obtain ⟨c, hc, _, _⟩ := take_get hi
      have h1 := catN_take hc
      have h2 := catN_le cs (i + 1)
      rw [h1, List.length_append] at h2
      simp -implicitDefEqProofs (maxSteps := 4000000) (disch := omega) only [go_sem, go_sem_proc, dr, Nat.min_def, ↓Nat.reduceBEq, ↓Nat.reduceEqDiff, ↓Nat.reduceLT, ↓Nat.reduceLeDiff, ↓Int.reduceEq, ↓Int.reduceLT, ↓Int.reduceLE, ↓reduceIte, hc, h1, cv, List.map_append]
    · simp -implicitDefEqProofs (maxSteps := 4000000) (disch := omega) only [go_sem, go_sem_proc, dr, Nat.min_def, ↓Nat.reduceBEq, ↓Nat.reduceEqDiff, ↓Nat.reduceLT, ↓Nat.reduceLeDiff, ↓Int.reduceEq, ↓Int.reduceLT, ↓Int.reduceLE, ↓reduceIte, take_all]
theorem ConcatA_spec {la lb : PV} {A B : Al} (ha : IsL la A) (hb : IsL lb B) (hn : (A ++ B).length ≤ 1000000) : dw E 44 [.sl 1 [[la], [lb]]] [] =
    some (.nr 39 1 ((A ++ B).map cv), []) := by
  rw [List.length_append] at hn
  refine dw_in (fn := Try.f44) rfl body44 (by simp) ?_
  rcases ha with ⟨rfl, rfl⟩ | rfl <;> rcases hb with ⟨rfl, rfl⟩ | rfl
  · simp -implicitDefEqProofs (maxSteps := 4000000) (disch := omega) only [go_sem, go_sem_proc, dr, Nat.min_def, ↓Nat.reduceBEq, ↓Nat.reduceEqDiff, ↓Nat.reduceLT, ↓Nat.reduceLeDiff, ↓Int.reduceEq, ↓Int.reduceLT, ↓Int.reduceLE, ↓reduceIte]
    refine runs_for (fun i : Nat => (⟨[(0, .sl 1 [[.nils], [.nils]]), (3, .int .i64 (match i with | 0 => 0 | 1 => lenI (.nils) | _ => lenI (.nils) + lenI (.nils))), (9, .sl 1 [[.nils], [.nils]]), (10, .int .i64 2), (11, .int .i64 i)], [], 1⟩ : St)) 2 ?_ ?_ ?_
    · simp -implicitDefEqProofs (maxSteps := 4000000) (disch := omega) only [go_sem, go_sem_proc, dr, Nat.min_def, ↓Nat.reduceBEq, ↓Nat.reduceEqDiff, ↓Nat.reduceLT, ↓Nat.reduceLeDiff, ↓Int.reduceEq, ↓Int.reduceLT, ↓Int.reduceLE, ↓reduceIte]
    · intro i hi
      rcases (show i = 0 ∨ i = 1 by omega) with rfl | rfl
      · simp -implicitDefEqProofs (maxSteps := 4000000) (disch := omega) only [go_sem, go_sem_proc, dr, Nat.min_def, ↓Nat.reduceBEq, ↓Nat.reduceEqDiff, ↓Nat.reduceLT, ↓Nat.reduceLeDiff, ↓Int.reduceEq, ↓Int.reduceLT, ↓Int.reduceLE, ↓reduceIte, lenI]
      · simp -implicitDefEqProofs (maxSteps := 4000000) (disch := omega) only [go_sem, go_sem_proc, dr, Nat.min_def, ↓Nat.reduceBEq, ↓Nat.reduceEqDiff, ↓Nat.reduceLT, ↓Nat.reduceLeDiff, ↓Int.reduceEq, ↓Int.reduceLT, ↓Int.reduceLE, ↓reduceIte, lenI]
    · simp -implicitDefEqProofs (maxSteps := 4000000) (disch := omega) only [go_sem, go_sem_proc, dr, Nat.min_def, ↓Nat.reduceBEq, ↓Nat.reduceEqDiff, ↓Nat.reduceLT, ↓Nat.reduceLeDiff, ↓Int.reduceEq, ↓Int.reduceLT, ↓Int.reduceLE, ↓reduceIte, growF_of, lenI]
      refine runs_for (fun i : Nat => (⟨[(6, .h 2097536), (25, .sl 1 [[.nils], [.nils]]), (26, .int .i64 2), (27, .int .i64 i)], [(2097536, some ⟨true, .row 39 1 (match i with | 0 => [] | 1 => rowsI (.nils) | _ => rowsI (.nils) ++ rowsI (.nils))⟩)], 1⟩ : St)) 2 ?_ ?_ ?_
      · simp -implicitDefEqProofs (maxSteps := 4000000) (disch := omega) only [go_sem, go_sem_proc, dr, Nat.min_def, ↓Nat.reduceBEq, ↓Nat.reduceEqDiff, ↓Nat.reduceLT, ↓Nat.reduceLeDiff, ↓Int.reduceEq, ↓Int.reduceLT, ↓Int.reduceLE, ↓reduceIte]
      · intro i hi
        rcases (show i = 0 ∨ i = 1 by omega) with rfl | rfl
        · simp -implicitDefEqProofs (maxSteps := 4000000) (disch := omega) only [go_sem, go_sem_proc, dr, Nat.min_def, ↓Nat.reduceBEq, ↓Nat.reduceEqDiff, ↓Nat.reduceLT, ↓Nat.reduceLeDiff, ↓Int.reduceEq, ↓Int.reduceLT, ↓Int.reduceLE, ↓reduceIte, rowsI]
        · simp -implicitDefEqProofs (maxSteps := 4000000) (disch := omega) only [go_sem, go_sem_proc, dr, Nat.min_def, ↓Nat.reduceBEq, ↓Nat.reduceEqDiff, ↓Nat.reduceLT, ↓Nat.reduceLeDiff, ↓Int.reduceEq, ↓Int.reduceLT, ↓Int.reduceLE, ↓reduceIte, rowsI]
      · simp -implicitDefEqProofs (maxSteps := 4000000) (disch := omega) only [go_sem, go_sem_proc, dr, Nat.min_def, ↓Nat.reduceBEq, ↓Nat.reduceEqDiff, ↓Nat.reduceLT, ↓Nat.reduceLeDiff, ↓Int.reduceEq, ↓Int.reduceLT, ↓Int.reduceLE, ↓reduceIte, rowsI, List.map_append]
  · simp -implicitDefEqProofs (maxSteps := 4000000) (disch := omega) only [go_sem, go_sem_proc, dr, Nat.min_def, ↓Nat.reduceBEq, ↓Nat.reduceEqDiff, ↓Nat.reduceLT, ↓Nat.reduceLeDiff, ↓Int.reduceEq, ↓Int.reduceLT, ↓Int.reduceLE, ↓reduceIte]
    refine runs_for (fun i : Nat => (⟨[(0, .sl 1 [[.nils], [.sl 1 (B.map cv)]]), (3, .int .i64 (match i with | 0 => 0 | 1 => lenI (.nils) | _ => lenI (.nils) + lenI (.sl 1 (B.map cv)))), (9, .sl 1 [[.nils], [.sl 1 (B.map cv)]]), (10, .int .i64 2), (11, .int .i64 i)], [], 1⟩ : St)) 2 ?_ ?_ ?_
    · simp -implicitDefEqProofs (maxSteps := 4000000) (disch := omega) only [go_sem, go_sem_proc, dr, Nat.min_def, ↓Nat.reduceBEq, ↓Nat.reduceEqDiff, ↓Nat.reduceLT, ↓Nat.reduceLeDiff, ↓Int.reduceEq, ↓Int.reduceLT, ↓Int.reduceLE, ↓reduceIte]
    · intro i hi
      rcases (show i = 0 ∨ i = 1 by omega) with rfl | rfl
      · simp -implicitDefEqProofs (maxSteps := 4000000) (disch := omega) only [go_sem, go_sem_proc, dr, Nat.min_def, ↓Nat.reduceBEq, ↓Nat.reduceEqDiff, ↓Nat.reduceLT, ↓Nat.reduceLeDiff, ↓Int.reduceEq, ↓Int.reduceLT, ↓Int.reduceLE, ↓reduceIte, lenI]
      · simp -implicitDefEqProofs (maxSteps := 4000000) (disch := omega) only [go_sem, go_sem_proc, dr, Nat.min_def, ↓Nat.reduceBEq, ↓Nat.reduceEqDiff, ↓Nat.reduceLT, ↓Nat.reduceLeDiff, ↓Int.reduceEq, ↓Int.reduceLT, ↓Int.reduceLE, ↓reduceIte, lenI]
    · simp -implicitDefEqProofs (maxSteps := 4000000) (disch := omega) only [go_sem, go_sem_proc, dr, Nat.min_def, ↓Nat.reduceBEq, ↓Nat.reduceEqDiff, ↓Nat.reduceLT, ↓Nat.reduceLeDiff, ↓Int.reduceEq, ↓Int.reduceLT, ↓Int.reduceLE, ↓reduceIte, growF_of, lenI]
      refine runs_for (fun i : Nat => (⟨[(6, .h 2097536), (25, .sl 1 [[.nils], [.sl 1 (B.map cv)]]), (26, .int .i64 2), (27, .int .i64 i)], [(2097536, some ⟨true, .row 39 1 (match i with | 0 => [] | 1 => rowsI (.nils) | _ => rowsI (.nils) ++ rowsI (.sl 1 (B.map cv)))⟩)], 1⟩ : St)) 2 ?_ ?_ ?_
      · simp -implicitDefEqProofs (maxSteps := 4000000) (disch := omega) only [go_sem, go_sem_proc, dr, Nat.min_def, ↓Nat.reduceBEq, ↓Nat.reduceEqDiff, ↓Nat.reduceLT, ↓Nat.reduceLeDiff, ↓Int.reduceEq, ↓Int.reduceLT, ↓Int.reduceLE, ↓reduceIte]
      · intro i hi
        rcases (show i = 0 ∨ i = 1 by omega) with rfl | rfl
        · simp -implicitDefEqProofs (maxSteps := 4000000) (disch := omega) only [go_sem, go_sem_proc, dr, Nat.min_def, ↓Nat.reduceBEq, ↓Nat.reduceEqDiff, ↓Nat.reduceLT, ↓Nat.reduceLeDiff, ↓Int.reduceEq, ↓Int.reduceLT, ↓Int.reduceLE, ↓reduceIte, rowsI]
        · simp -implicitDefEqProofs (maxSteps := 4000000) (disch := omega) only [go_sem, go_sem_proc, dr, Nat.min_def, ↓Nat.reduceBEq, ↓Nat.reduceEqDiff, ↓Nat.reduceLT, ↓Nat.reduceLeDiff, ↓Int.reduceEq, ↓Int.reduceLT, ↓Int.reduceLE, ↓reduceIte, rowsI]
      · simp -implicitDefEqProofs (maxSteps := 4000000) (disch := omega) only [go_sem, go_sem_proc, dr, Nat.min_def, ↓Nat.reduceBEq, ↓Nat.reduceEqDiff, ↓Nat.reduceLT, ↓Nat.reduceLeDiff, ↓Int.reduceEq, ↓Int.reduceLT, ↓Int.reduceLE, ↓reduceIte, rowsI, List.map_append]
  · simp -implicitDefEqProofs (maxSteps := 4000000) (disch := omega) only [go_sem, go_sem_proc, dr, Nat.min_def, ↓Nat.reduceBEq, ↓Nat.reduceEqDiff, ↓Nat.reduceLT, ↓Nat.reduceLeDiff, ↓Int.reduceEq, ↓Int.reduceLT, ↓Int.reduceLE, ↓reduceIte]
    refine runs_for (fun i : Nat => (⟨[(0, .sl 1 [[.sl 1 (A.map cv)], [.nils]]), (3, .int .i64 (match i with | 0 => 0 | 1 => lenI (.sl 1 (A.map cv)) | _ => lenI (.sl 1 (A.map cv)) + lenI (.nils))), (9, .sl 1 [[.sl 1 (A.map cv)], [.nils]]), (10, .int .i64 2), (11, .int .i64 i)], [], 1⟩ : St)) 2 ?_ ?_ ?_
    · simp -implicitDefEqProofs (maxSteps := 4000000) (disch := omega) only [go_sem, go_sem_proc, dr, Nat.min_def, ↓Nat.reduceBEq, ↓Nat.reduceEqDiff, ↓Nat.reduceLT, ↓Nat.reduceLeDiff, ↓Int.reduceEq, ↓Int.reduceLT, ↓Int.reduceLE, ↓reduceIte]
    · intro i hi
      rcases (show i = 0 ∨ i = 1 by omega) with rfl | rfl
      · simp -implicitDefEqProofs (maxSteps := 4000000) (disch := omega) only [go_sem, go_sem_proc, dr, Nat.min_def, ↓Nat.reduceBEq, ↓Nat.reduceEqDiff, ↓Nat.reduceLT, ↓Nat.reduceLeDiff, ↓Int.reduceEq, ↓Int.reduceLT, ↓Int.reduceLE, ↓reduceIte, lenI]
      · simp -implicitDefEqProofs (maxSteps := 4000000) (disch := omega) only [go_sem, go_sem_proc, dr, Nat.min_def, ↓Nat.reduceBEq, ↓Nat.reduceEqDiff, ↓Nat.reduceLT, ↓Nat.reduceLeDiff, ↓Int.reduceEq, ↓Int.reduceLT, ↓Int.reduceLE, ↓reduceIte, lenI]
    · simp -implicitDefEqProofs (maxSteps := 4000000) (disch := omega) only [go_sem, go_sem_proc, dr, Nat.min_def, ↓Nat.reduceBEq, ↓Nat.reduceEqDiff, ↓Nat.reduceLT, ↓Nat.reduceLeDiff, ↓Int.reduceEq, ↓Int.reduceLT, ↓Int.reduceLE, ↓reduceIte, growF_of, lenI]
      refine runs_for (fun i : Nat => (⟨[(6, .h 2097536), (25, .sl 1 [[.sl 1 (A.map cv)], [.nils]]), (26, .int .i64 2), (27, .int .i64 i)], [(2097536, some ⟨true, .row 39 1 (match i with | 0 => [] | 1 => rowsI (.sl 1 (A.map cv)) | _ => rowsI (.sl 1 (A.map cv)) ++ rowsI (.nils))⟩)], 1⟩ : St)) 2 ?_ ?_ ?_
      · simp -implicitDefEqProofs (maxSteps := 4000000) (disch := omega) only [go_sem, go_sem_proc, dr, Nat.min_def, ↓Nat.reduceBEq, ↓Nat.reduceEqDiff, ↓Nat.reduceLT, ↓Nat.reduceLeDiff, ↓Int.reduceEq, ↓Int.reduceLT, ↓Int.reduceLE, ↓reduceIte]
      · intro i hi
        rcases (show i = 0 ∨ i = 1 by omega) with rfl | rfl
        · simp -implicitDefEqProofs (maxSteps := 4000000) (disch := omega) only [go_sem, go_sem_proc, dr, Nat.min_def, ↓Nat.reduceBEq, ↓Nat.reduceEqDiff, ↓Nat.reduceLT, ↓Nat.reduceLeDiff, ↓Int.reduceEq, ↓Int.reduceLT, ↓Int.reduceLE, ↓reduceIte, rowsI]
        · simp -implicitDefEqProofs (maxSteps := 4000000) (disch := omega) only [go_sem, go_sem_proc, dr, Nat.min_def, ↓Nat.reduceBEq, ↓Nat.reduceEqDiff, ↓Nat.reduceLT, ↓Nat.reduceLeDiff, ↓Int.reduceEq, ↓Int.reduceLT, ↓Int.reduceLE, ↓reduceIte, rowsI]
      · simp -implicitDefEqProofs (maxSteps := 4000000) (disch := omega) only [go_sem, go_sem_proc, dr, Nat.min_def, ↓Nat.reduceBEq, ↓Nat.reduceEqDiff, ↓Nat.reduceLT, ↓Nat.reduceLeDiff, ↓Int.reduceEq, ↓Int.reduceLT, ↓Int.reduceLE, ↓reduceIte, rowsI, List.map_append]
  · simp -implicitDefEqProofs (maxSteps := 4000000) (disch := omega) only [go_sem, go_sem_proc, dr, Nat.min_def, ↓Nat.reduceBEq, ↓Nat.reduceEqDiff, ↓Nat.reduceLT, ↓Nat.reduceLeDiff, ↓Int.reduceEq, ↓Int.reduceLT, ↓Int.reduceLE, ↓reduceIte]
    refine runs_for (fun i : Nat => (⟨[(0, .sl 1 [[.sl 1 (A.map cv)], [.sl 1 (B.map cv)]]), (3, .int .i64 (match i with | 0 => 0 | 1 => lenI (.sl 1 (A.map cv)) | _ => lenI (.sl 1 (A.map cv)) + lenI (.sl 1 (B.map cv)))), (9, .sl 1 [[.sl 1 (A.map cv)], [.sl 1 (B.map cv)]]), (10, .int .i64 2), (11, .int .i64 i)], [], 1⟩ : St)) 2 ?_ ?_ ?_
    · simp -implicitDefEqProofs (maxSteps := 4000000) (disch := omega) only [go_sem, go_sem_proc, dr, Nat.min_def, ↓Nat.reduceBEq, ↓Nat.reduceEqDiff, ↓Nat.reduceLT, ↓Nat.reduceLeDiff, ↓Int.reduceEq, ↓Int.reduceLT, ↓Int.reduceLE, ↓reduceIte]
    · intro i hi
      rcases (show i = 0 ∨ i = 1 by omega) with rfl | rfl
      · simp -implicitDefEqProofs (maxSteps := 4000000) (disch := omega) only [go_sem, go_sem_proc, dr, Nat.min_def, ↓Nat.reduceBEq, ↓Nat.reduceEqDiff, ↓Nat.reduceLT, ↓Nat.reduceLeDiff, ↓Int.reduceEq, ↓Int.reduceLT, ↓Int.reduceLE, ↓reduceIte, lenI]
      · simp -implicitDefEqProofs (maxSteps := 4000000) (disch := omega) only [go_sem, go_sem_proc, dr, Nat.min_def, ↓Nat.reduceBEq, ↓Nat.reduceEqDiff, ↓Nat.reduceLT, ↓Nat.reduceLeDiff, ↓Int.reduceEq, ↓Int.reduceLT, ↓Int.reduceLE, ↓reduceIte, lenI]
    · simp -implicitDefEqProofs (maxSteps := 4000000) (disch := omega) only [go_sem, go_sem_proc, dr, Nat.min_def, ↓Nat.reduceBEq, ↓Nat.reduceEqDiff, ↓Nat.reduceLT, ↓Nat.reduceLeDiff, ↓Int.reduceEq, ↓Int.reduceLT, ↓Int.reduceLE, ↓reduceIte, growF_of, lenI]
      refine runs_for (fun i : Nat => (⟨[(6, .h 2097536), (25, .sl 1 [[.sl 1 (A.map cv)], [.sl 1 (B.map cv)]]), (26, .int .i64 2), (27, .int .i64 i)], [(2097536, some ⟨true, .row 39 1 (match i with | 0 => [] | 1 => rowsI (.sl 1 (A.map cv)) | _ => rowsI (.sl 1 (A.map cv)) ++ rowsI (.sl 1 (B.map cv)))⟩)], 1⟩ : St)) 2 ?_ ?_ ?_
      · simp -implicitDefEqProofs (maxSteps := 4000000) (disch := omega) only [go_sem, go_sem_proc, dr, Nat.min_def, ↓Nat.reduceBEq, ↓Nat.reduceEqDiff, ↓Nat.reduceLT, ↓Nat.reduceLeDiff, ↓Int.reduceEq, ↓Int.reduceLT, ↓Int.reduceLE, ↓reduceIte]
      · intro i hi
        rcases (show i = 0 ∨ i = 1 by omega) with rfl | rfl
        · simp -implicitDefEqProofs (maxSteps := 4000000) (disch := omega) only [go_sem, go_sem_proc, dr, Nat.min_def, ↓Nat.reduceBEq, ↓Nat.reduceEqDiff, ↓Nat.reduceLT, ↓Nat.reduceLeDiff, ↓Int.reduceEq, ↓Int.reduceLT, ↓Int.reduceLE, ↓reduceIte, rowsI]
        · simp -implicitDefEqProofs (maxSteps := 4000000) (disch := omega) only [go_sem, go_sem_proc, dr, Nat.min_def, ↓Nat.reduceBEq, ↓Nat.reduceEqDiff, ↓Nat.reduceLT, ↓Nat.reduceLeDiff, ↓Int.reduceEq, ↓Int.reduceLT, ↓Int.reduceLE, ↓reduceIte, rowsI]
      · simp -implicitDefEqProofs (maxSteps := 4000000) (disch := omega) only [go_sem, go_sem_proc, dr, Nat.min_def, ↓Nat.reduceBEq, ↓Nat.reduceEqDiff, ↓Nat.reduceLT, ↓Nat.reduceLeDiff, ↓Int.reduceEq, ↓Int.reduceLT, ↓Int.reduceLE, ↓reduceIte, rowsI, List.map_append]

end Go.Proofs.Ytjhdickfkpcccaa.D
