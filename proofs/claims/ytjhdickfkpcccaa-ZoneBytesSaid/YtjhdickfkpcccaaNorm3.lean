/- One form: one and the other. -/
import Derived.Test.YtjhdickfkpcccaaNorm2
namespace Go.Proofs.Ytjhdickfkpcccaa.D
open Go Go.Den
set_option linter.unusedSimpArgs false
set_option linter.unusedVariables false
set_option maxRecDepth 20000
set_option maxHeartbeats 4000000
theorem crossN_len (A B : Al) : (crossN A B).length = A.length * B.length := by
  unfold crossN
  induction A with
  | nil => simp
  | cons x r ih => rw [List.flatMap_cons, List.length_append, ih, List.length_map, List.length_cons, Nat.succ_mul, Nat.add_comm]
def partN (A B : Al) (i : Nat) (x : Cj) (j : Nat) : Al := crossN (A.take i) B ++ (B.take j).map fun y => (false, x.2 ++ y.2)
theorem part_zero (A B : Al) (i : Nat) (x : Cj) : partN A B i x 0 = crossN (A.take i) B := by simp [partN]
theorem part_succ (A : Al) {B : Al} (i : Nat) (x : Cj) {j : Nat} {y : Cj} (h : B.take (j + 1) = B.take j ++ [y]) : partN A B i x (j + 1) = partN A B i x j ++ [(false, x.2 ++ y.2)] := by
  unfold partN
  rw [h, List.map_append, List.append_assoc]
  rfl
theorem part_full {A : Al} (B : Al) {i : Nat} {x : Cj} (h : A.take (i + 1) = A.take i ++ [x]) : crossN (A.take (i + 1)) B = partN A B i x B.length := by
  unfold partN crossN
  rw [h, List.flatMap_append, List.take_length]
  simp
theorem okLen_snoc (P : Al) (c : Cj) : okLen (P ++ [c]) = (okLen P && decide ((c.2.length : Int) ≤ 32)) := by simp [okLen]
theorem part_len {A B : Al} {i j : Nat} (x : Cj) (hi : i < A.length) (hj : j < B.length) : (partN A B i x j).length + 1 ≤ A.length * B.length := by
  unfold partN
  rw [List.length_append, crossN_len, List.length_map, List.length_take, List.length_take, Nat.min_eq_left (by omega), Nat.min_eq_left (by omega)]
  have h1 : (i + 1) * B.length ≤ A.length * B.length := Nat.mul_le_mul_right _ hi
  rw [Nat.succ_mul] at h1
  omega
theorem crossN_nil (B : Al) : crossN [] B = [] := rfl
theorem crossN_nilR (A : Al) : crossN A [] = [] := by simp [crossN]
theorem okLen_nil : okLen [] = true := rfl
theorem both_no {la lb : PV} {A B : Al} {a b : Bool} (ha : IsL la A) (hb : IsL lb B) (h : (a && b) = false) : dw E 40 [.agg [la, .bool a], .agg [lb, .bool b]] [] = some (.agg [.nils, .bool false], []) := by
  refine dw_in (fn := Try.f40) rfl body40 (by simp) ?_
  rcases ha with ⟨rfl, rfl⟩ | rfl <;> rcases hb with ⟨rfl, rfl⟩ | rfl <;> cases a <;> cases b
  all_goals first | (exact absurd h (by decide)) | (simp -implicitDefEqProofs (maxSteps := 4000000) (disch := omega) only [go_sem, go_sem_proc, dr, Nat.min_def, ↓Nat.reduceBEq, ↓Nat.reduceEqDiff, ↓Nat.reduceLT, ↓Nat.reduceLeDiff, ↓Int.reduceEq, ↓Int.reduceLT, ↓Int.reduceLE, ↓reduceIte]; done) | (simp -implicitDefEqProofs (maxSteps := 4000000) (disch := omega) only [go_sem, go_sem_proc, dr, Nat.min_def, ↓Nat.reduceBEq, ↓Nat.reduceEqDiff, ↓Nat.reduceLT, ↓Nat.reduceLeDiff, ↓Int.reduceEq, ↓Int.reduceLT, ↓Int.reduceLE, ↓reduceIte]; ((repeat' split) <;> (change _ = true; kernel_rfl)))
theorem both_many {la lb : PV} {A B : Al} (ha : IsL la A) (hb : IsL lb B) (h1 : A.length ≤ 1000000) (h2 : B.length ≤ 1000000) (h : (32 : Int) < A.length * B.length) :
    dw E 40 [.agg [la, .bool true], .agg [lb, .bool true]] [] = some (.agg [.nils, .bool false], []) := by
  refine dw_in (fn := Try.f40) rfl body40 (by simp) ?_
  have h3 := Nat.mul_le_mul h1 h2
  have h3 : (A.length : Int) * B.length ≤ 1000000000000 := by rw [← Int.natCast_mul]; omega
  rcases ha with ⟨rfl, rfl⟩ | rfl
  · simp at h
  rcases hb with ⟨rfl, rfl⟩ | rfl
  · simp at h
  first | (simp -implicitDefEqProofs (maxSteps := 4000000) (disch := omega) only [go_sem, go_sem_proc, dr, Nat.min_def, ↓Nat.reduceBEq, ↓Nat.reduceEqDiff, ↓Nat.reduceLT, ↓Nat.reduceLeDiff, ↓Int.reduceEq, ↓Int.reduceLT, ↓Int.reduceLE, ↓reduceIte]; done) | (simp -implicitDefEqProofs (maxSteps := 4000000) (disch := omega) only [go_sem, go_sem_proc, dr, Nat.min_def, ↓Nat.reduceBEq, ↓Nat.reduceEqDiff, ↓Nat.reduceLT, ↓Nat.reduceLeDiff, ↓Int.reduceEq, ↓Int.reduceLT, ↓Int.reduceLE, ↓reduceIte]; ((repeat' split) <;> (change _ = true; kernel_rfl)))
theorem both_yes {la lb : PV} {A B : Al} (ha : IsL la A) (hb : IsL lb B) (hA : ∀ c ∈ A, c.2.length ≤ 32) (hB : ∀ c ∈ B, c.2.length ≤ 32) (h1 : A.length ≤ 1000000) (h2 : B.length ≤ 1000000) (h : (A.length : Int) * B.length ≤ 32) :
    dw E 40 [.agg [la, .bool true], .agg [lb, .bool true]] [] = some (.agg [.nr 39 1 ((crossN A B).map cv), .bool (okLen (crossN A B))], []) := by
  refine dw_in (fn := Try.f40) rfl body40 (by simp) ?_
  have h0 : 0 ≤ (A.length : Int) * B.length := Int.mul_nonneg (by omega) (by omega)
  rcases ha with ⟨rfl, rfl⟩ | rfl
  · rcases hb with ⟨rfl, rfl⟩ | rfl
    · simp -implicitDefEqProofs (maxSteps := 4000000) (disch := omega) only [go_sem, go_sem_proc, dr, Nat.min_def, ↓Nat.reduceBEq, ↓Nat.reduceEqDiff, ↓Nat.reduceLT, ↓Nat.reduceLeDiff, ↓Int.reduceEq, ↓Int.reduceLT, ↓Int.reduceLE, ↓reduceIte]
      refine runs_for (fun i : Nat => (⟨[(3, .pb 1048579 0), (4, .pb 1048580 0), (5, .pb 1048581 0), (33, .nils), (34, .int .i64 0), (35, .int .i64 i)], [(1048579, some ⟨true, .box [.nils, .bool true]⟩), (1048580, some ⟨true, .box [.nils, .bool false]⟩), (1048581, some ⟨true, .box [.h 2097472, .bool true]⟩), (2097472, some ⟨true, .row 39 1 []⟩)], 1⟩ : St)) 0 ?_ ?_ ?_
      · simp -implicitDefEqProofs (maxSteps := 4000000) (disch := omega) only [go_sem, go_sem_proc, dr, Nat.min_def, ↓Nat.reduceBEq, ↓Nat.reduceEqDiff, ↓Nat.reduceLT, ↓Nat.reduceLeDiff, ↓Int.reduceEq, ↓Int.reduceLT, ↓Int.reduceLE, ↓reduceIte]
      · intro i hi; omega
      · simp -implicitDefEqProofs (maxSteps := 4000000) (disch := omega) only [go_sem, go_sem_proc, dr, Nat.min_def, ↓Nat.reduceBEq, ↓Nat.reduceEqDiff, ↓Nat.reduceLT, ↓Nat.reduceLeDiff, ↓Int.reduceEq, ↓Int.reduceLT, ↓Int.reduceLE, ↓reduceIte, crossN_nil, okLen_nil]
    · simp -implicitDefEqProofs (maxSteps := 4000000) (disch := omega) only [go_sem, go_sem_proc, dr, Nat.min_def, ↓Nat.reduceBEq, ↓Nat.reduceEqDiff, ↓Nat.reduceLT, ↓Nat.reduceLeDiff, ↓Int.reduceEq, ↓Int.reduceLT, ↓Int.reduceLE, ↓reduceIte]
      refine runs_for (fun i : Nat => (⟨[(3, .pb 1048579 0), (4, .pb 1048580 0), (5, .pb 1048581 0), (33, .nils), (34, .int .i64 0), (35, .int .i64 i)], [(1048579, some ⟨true, .box [.sl 1 (B.map cv), .bool true]⟩), (1048580, some ⟨true, .box [.nils, .bool false]⟩), (1048581, some ⟨true, .box [.h 2097472, .bool true]⟩), (2097472, some ⟨true, .row 39 1 []⟩)], 1⟩ : St)) 0 ?_ ?_ ?_
      · simp -implicitDefEqProofs (maxSteps := 4000000) (disch := omega) only [go_sem, go_sem_proc, dr, Nat.min_def, ↓Nat.reduceBEq, ↓Nat.reduceEqDiff, ↓Nat.reduceLT, ↓Nat.reduceLeDiff, ↓Int.reduceEq, ↓Int.reduceLT, ↓Int.reduceLE, ↓reduceIte]
      · intro i hi; omega
      · simp -implicitDefEqProofs (maxSteps := 4000000) (disch := omega) only [go_sem, go_sem_proc, dr, Nat.min_def, ↓Nat.reduceBEq, ↓Nat.reduceEqDiff, ↓Nat.reduceLT, ↓Nat.reduceLeDiff, ↓Int.reduceEq, ↓Int.reduceLT, ↓Int.reduceLE, ↓reduceIte, crossN_nil, okLen_nil]
  rcases hb with ⟨rfl, rfl⟩ | rfl
  · simp -implicitDefEqProofs (maxSteps := 4000000) (disch := omega) only [go_sem, go_sem_proc, dr, Nat.min_def, ↓Nat.reduceBEq, ↓Nat.reduceEqDiff, ↓Nat.reduceLT, ↓Nat.reduceLeDiff, ↓Int.reduceEq, ↓Int.reduceLT, ↓Int.reduceLE, ↓reduceIte]
    rw [crossN_nilR]
    refine runs_for (fun i : Nat => (⟨[(3, .pb 1048579 0), (4, .pb 1048580 0), (5, .pb 1048581 0), (33, .sl 1 (A.map cv)), (34, .int .i64 A.length), (35, .int .i64 i)], [(1048579, some ⟨true, .box [.nils, .bool true]⟩), (1048580, some ⟨true, .box [.nils, .bool false]⟩), (1048581, some ⟨true, .box [.h 2097472, .bool true]⟩), (2097472, some ⟨true, .row 39 1 []⟩)], 1⟩ : St)) A.length ?_ ?_ ?_
    · simp -implicitDefEqProofs (maxSteps := 4000000) (disch := omega) only [go_sem, go_sem_proc, dr, Nat.min_def, ↓Nat.reduceBEq, ↓Nat.reduceEqDiff, ↓Nat.reduceLT, ↓Nat.reduceLeDiff, ↓Int.reduceEq, ↓Int.reduceLT, ↓Int.reduceLE, ↓reduceIte]
    · intro i hi
      obtain ⟨x, hx, hxm, htx⟩ := take_get hi
      simp -implicitDefEqProofs (maxSteps := 4000000) (disch := omega) only [go_sem, go_sem_proc, dr, Nat.min_def, ↓Nat.reduceBEq, ↓Nat.reduceEqDiff, ↓Nat.reduceLT, ↓Nat.reduceLeDiff, ↓Int.reduceEq, ↓Int.reduceLT, ↓Int.reduceLE, ↓reduceIte, hx, cv]
      refine runs_for (fun j : Nat => (⟨[(3, .pb 1048579 0), (4, .pb 1048580 0), (5, .pb 1048581 0), (7, pl x.1 x.2), (33, .sl 1 (A.map cv)), (34, .int .i64 A.length), (35, .int .i64 i), (40, .nils), (41, .int .i64 0), (42, .int .i64 j)], [(1048579, some ⟨true, .box [.nils, .bool true]⟩), (1048580, some ⟨true, .box [.nils, .bool false]⟩), (1048581, some ⟨true, .box [.h 2097472, .bool true]⟩), (2097472, some ⟨true, .row 39 1 []⟩)], 1⟩ : St)) 0 ?_ ?_ ?_
      · simp -implicitDefEqProofs (maxSteps := 4000000) (disch := omega) only [go_sem, go_sem_proc, dr, Nat.min_def, ↓Nat.reduceBEq, ↓Nat.reduceEqDiff, ↓Nat.reduceLT, ↓Nat.reduceLeDiff, ↓Int.reduceEq, ↓Int.reduceLT, ↓Int.reduceLE, ↓reduceIte]
      · intro j hj; omega
      · simp -implicitDefEqProofs (maxSteps := 4000000) (disch := omega) only [go_sem, go_sem_proc, dr, Nat.min_def, ↓Nat.reduceBEq, ↓Nat.reduceEqDiff, ↓Nat.reduceLT, ↓Nat.reduceLeDiff, ↓Int.reduceEq, ↓Int.reduceLT, ↓Int.reduceLE, ↓reduceIte]
    · simp -implicitDefEqProofs (maxSteps := 4000000) (disch := omega) only [go_sem, go_sem_proc, dr, Nat.min_def, ↓Nat.reduceBEq, ↓Nat.reduceEqDiff, ↓Nat.reduceLT, ↓Nat.reduceLeDiff, ↓Int.reduceEq, ↓Int.reduceLT, ↓Int.reduceLE, ↓reduceIte, okLen_nil]
  · simp -implicitDefEqProofs (maxSteps := 4000000) (disch := omega) only [go_sem, go_sem_proc, dr, Nat.min_def, ↓Nat.reduceBEq, ↓Nat.reduceEqDiff, ↓Nat.reduceLT, ↓Nat.reduceLeDiff, ↓Int.reduceEq, ↓Int.reduceLT, ↓Int.reduceLE, ↓reduceIte]
    refine runs_for (fun i : Nat => (⟨[(3, .pb 1048579 0), (4, .pb 1048580 0), (5, .pb 1048581 0), (33, .sl 1 (A.map cv)), (34, .int .i64 A.length), (35, .int .i64 i)], [(1048579, some ⟨true, .box [.sl 1 (B.map cv), .bool true]⟩), (1048580, some ⟨true, .box [.nils, .bool false]⟩), (1048581, some ⟨true, .box [.h 2097472, .bool (okLen (crossN (A.take i) B))]⟩), (2097472, some ⟨true, .row 39 1 ((crossN (A.take i) B).map cv)⟩)], 1⟩ : St)) A.length ?_ ?_ ?_
    · simp -implicitDefEqProofs (maxSteps := 4000000) (disch := omega) only [go_sem, go_sem_proc, dr, Nat.min_def, ↓Nat.reduceBEq, ↓Nat.reduceEqDiff, ↓Nat.reduceLT, ↓Nat.reduceLeDiff, ↓Int.reduceEq, ↓Int.reduceLT, ↓Int.reduceLE, ↓reduceIte, crossN_nil, okLen_nil]
    · intro i hi
      obtain ⟨x, hx, hxm, htx⟩ := take_get hi
      have hxl := hA x hxm
      rw [part_full B htx]
      simp -implicitDefEqProofs (maxSteps := 4000000) (disch := omega) only [go_sem, go_sem_proc, dr, Nat.min_def, ↓Nat.reduceBEq, ↓Nat.reduceEqDiff, ↓Nat.reduceLT, ↓Nat.reduceLeDiff, ↓Int.reduceEq, ↓Int.reduceLT, ↓Int.reduceLE, ↓reduceIte, hx, cv]
      refine runs_for (fun j : Nat => (⟨[(3, .pb 1048579 0), (4, .pb 1048580 0), (5, .pb 1048581 0), (7, pl x.1 x.2), (33, .sl 1 (A.map cv)), (34, .int .i64 A.length), (35, .int .i64 i), (40, .sl 1 (B.map cv)), (41, .int .i64 B.length), (42, .int .i64 j)], [(1048579, some ⟨true, .box [.sl 1 (B.map cv), .bool true]⟩), (1048580, some ⟨true, .box [.nils, .bool false]⟩), (1048581, some ⟨true, .box [.h 2097472, .bool (okLen (partN A B i x j))]⟩), (2097472, some ⟨true, .row 39 1 ((partN A B i x j).map cv)⟩)], 1⟩ : St)) B.length ?_ ?_ ?_
      · simp -implicitDefEqProofs (maxSteps := 4000000) (disch := omega) only [go_sem, go_sem_proc, dr, Nat.min_def, ↓Nat.reduceBEq, ↓Nat.reduceEqDiff, ↓Nat.reduceLT, ↓Nat.reduceLeDiff, ↓Int.reduceEq, ↓Int.reduceLT, ↓Int.reduceLE, ↓reduceIte, part_zero]
      · intro j hj
        obtain ⟨y, hy, hym, hty⟩ := take_get hj
        have hyl := hB y hym
        have hpl := part_len x hi hj
        have hpl : (partN A B i x j).length + 1 ≤ 32 := by have : ((A.length * B.length : Nat) : Int) ≤ 32 := by rw [Int.natCast_mul]; exact h
                                                           omega
        have hz := ConcatP_spec (cs := [x, y]) (by simp) (by simp [catN]; omega)
        simp only [List.map_cons, List.map_nil, cv, catN, List.flatMap_cons, List.flatMap_nil, List.append_nil] at hz
        have hps := part_succ A i x hty
        cases hk : okLen (partN A B i x j) with
        | true => simp -implicitDefEqProofs (maxSteps := 4000000) (disch := omega) only [go_sem, go_sem_proc, dr, Nat.min_def, ↓Nat.reduceBEq, ↓Nat.reduceEqDiff, ↓Nat.reduceLT, ↓Nat.reduceLeDiff, ↓Int.reduceEq, ↓Int.reduceLT, ↓Int.reduceLE, ↓reduceIte, hy, cv, hz, hps, okLen_snoc, hk, List.map_append, pl_false]
        | false => simp -implicitDefEqProofs (maxSteps := 4000000) (disch := omega) only [go_sem, go_sem_proc, dr, Nat.min_def, ↓Nat.reduceBEq, ↓Nat.reduceEqDiff, ↓Nat.reduceLT, ↓Nat.reduceLeDiff, ↓Int.reduceEq, ↓Int.reduceLT, ↓Int.reduceLE, ↓reduceIte, hy, cv, hz, hps, okLen_snoc, hk, List.map_append, pl_false]
      · simp -implicitDefEqProofs (maxSteps := 4000000) (disch := omega) only [go_sem, go_sem_proc, dr, Nat.min_def, ↓Nat.reduceBEq, ↓Nat.reduceEqDiff, ↓Nat.reduceLT, ↓Nat.reduceLeDiff, ↓Int.reduceEq, ↓Int.reduceLT, ↓Int.reduceLE, ↓reduceIte]
    · simp -implicitDefEqProofs (maxSteps := 4000000) (disch := omega) only [go_sem, go_sem_proc, dr, Nat.min_def, ↓Nat.reduceBEq, ↓Nat.reduceEqDiff, ↓Nat.reduceLT, ↓Nat.reduceLeDiff, ↓Int.reduceEq, ↓Int.reduceLT, ↓Int.reduceLE, ↓reduceIte, take_all]

end Go.Proofs.Ytjhdickfkpcccaa.D
