/- Predicates: what the functions come to. -/
import Derived.Test.YtgnjnkmjcahkeaaSchm3
import Derived.Test.YtgnjnkmjcahkeaaDenK4
namespace Go.Proofs.Ytgnjnkmjcahkeaa.D
open Go Go.Den
set_option linter.unusedSimpArgs false
set_option linter.unusedVariables false
set_option maxRecDepth 20000
set_option maxHeartbeats 4000000
theorem Val_spec {nl : Bool} {k i : Int} {o : Option (List Int)} (ho : (bz o).length ≤ 1000000) : dw E 59 [.agg [.bool nl, .int .i64 k, .int .i64 i, bl o]] [] = some (.agg [.bool nl, .int .i64 k, .int .i64 i, .nr 5 1 (ints .u8 (bz o))], []) := by
  refine dw_in (fn := Try.f59) rfl rfl (by decide) ?_
  have hc := cloneF_bl o 5 (by omega)
  simp -implicitDefEqProofs (maxSteps := 4000000) (disch := omega) only [go_sem, go_sem_proc, dr, Nat.min_def, ↓Nat.reduceBEq, ↓Nat.reduceEqDiff, ↓Nat.reduceLT, ↓Nat.reduceLeDiff, ↓Int.reduceEq, ↓Int.reduceLT, ↓Int.reduceLE, ↓reduceIte, hc]
theorem At_in {row : List Val} {i : Nat} {v : Val} (h : row[i]? = some v) (hr : R1 row) : dw E 40 [.sl 4 (row.map Val.pv), .int .i64 i] [] = some (.agg [.bool v.null, .int .i64 v.kind, .int .i64 v.int, .nr 5 1 (ints .u8 (bz v.bytes))], []) := by
  refine dw_in (fn := Try.f40) rfl rfl (by decide) ?_
  have hi : i < row.length := (List.getElem?_eq_some_iff.1 h).1
  have hb := hr v (List.mem_of_getElem? h)
  simp -implicitDefEqProofs (maxSteps := 4000000) (disch := omega) only [go_sem, go_sem_proc, dr, Nat.min_def, ↓Nat.reduceBEq, ↓Nat.reduceEqDiff, ↓Nat.reduceLT, ↓Nat.reduceLeDiff, ↓Int.reduceEq, ↓Int.reduceLT, ↓Int.reduceLE, ↓reduceIte, h, Val_spec hb]
theorem At_out {row : List Val} {c : Int} (h : c < 0 ∨ (row.length : Int) ≤ c) : dw E 40 [.sl 4 (row.map Val.pv), .int .i64 c] [] = some (.agg [.bool false, .int .i64 0, .int .i64 0, .nils], []) := by
  refine dw_in (fn := Try.f40) rfl rfl (by decide) ?_
  by_cases h0 : c < 0
  · simp -implicitDefEqProofs (maxSteps := 4000000) (disch := omega) only [go_sem, go_sem_proc, dr, Nat.min_def, ↓Nat.reduceBEq, ↓Nat.reduceEqDiff, ↓Nat.reduceLT, ↓Nat.reduceLeDiff, ↓Int.reduceEq, ↓Int.reduceLT, ↓Int.reduceLE, ↓reduceIte]
  · simp -implicitDefEqProofs (maxSteps := 4000000) (disch := omega) only [go_sem, go_sem_proc, dr, Nat.min_def, ↓Nat.reduceBEq, ↓Nat.reduceEqDiff, ↓Nat.reduceLT, ↓Nat.reduceLeDiff, ↓Int.reduceEq, ↓Int.reduceLT, ↓Int.reduceLE, ↓reduceIte]
theorem Holds_pred {o c : Int} : dw E 42 [.int .i64 o, .int .i64 c] [] = some (.bool (holdsOp o c), []) := by
  refine dw_in (fn := Try.f42) rfl rfl (by decide) ?_
  unfold holdsOp
  by_cases h1 : o = 1
  · subst h1; simp -implicitDefEqProofs (maxSteps := 4000000) (disch := omega) only [go_sem, go_sem_proc, dr, Nat.min_def, ↓Nat.reduceBEq, ↓Nat.reduceEqDiff, ↓Nat.reduceLT, ↓Nat.reduceLeDiff, ↓Int.reduceEq, ↓Int.reduceLT, ↓Int.reduceLE, ↓reduceIte]
  by_cases h2 : o = 2
  · subst h2; simp -implicitDefEqProofs (maxSteps := 4000000) (disch := omega) only [go_sem, go_sem_proc, dr, Nat.min_def, ↓Nat.reduceBEq, ↓Nat.reduceEqDiff, ↓Nat.reduceLT, ↓Nat.reduceLeDiff, ↓Int.reduceEq, ↓Int.reduceLT, ↓Int.reduceLE, ↓reduceIte]
  by_cases h3 : o = 3
  · subst h3; simp -implicitDefEqProofs (maxSteps := 4000000) (disch := omega) only [go_sem, go_sem_proc, dr, Nat.min_def, ↓Nat.reduceBEq, ↓Nat.reduceEqDiff, ↓Nat.reduceLT, ↓Nat.reduceLeDiff, ↓Int.reduceEq, ↓Int.reduceLT, ↓Int.reduceLE, ↓reduceIte]
  by_cases h4 : o = 4
  · subst h4; simp -implicitDefEqProofs (maxSteps := 4000000) (disch := omega) only [go_sem, go_sem_proc, dr, Nat.min_def, ↓Nat.reduceBEq, ↓Nat.reduceEqDiff, ↓Nat.reduceLT, ↓Nat.reduceLeDiff, ↓Int.reduceEq, ↓Int.reduceLT, ↓Int.reduceLE, ↓reduceIte]
  by_cases h5 : o = 5
  · subst h5; simp -implicitDefEqProofs (maxSteps := 4000000) (disch := omega) only [go_sem, go_sem_proc, dr, Nat.min_def, ↓Nat.reduceBEq, ↓Nat.reduceEqDiff, ↓Nat.reduceLT, ↓Nat.reduceLeDiff, ↓Int.reduceEq, ↓Int.reduceLT, ↓Int.reduceLE, ↓reduceIte]
  by_cases h6 : o = 6
  · subst h6; simp -implicitDefEqProofs (maxSteps := 4000000) (disch := omega) only [go_sem, go_sem_proc, dr, Nat.min_def, ↓Nat.reduceBEq, ↓Nat.reduceEqDiff, ↓Nat.reduceLT, ↓Nat.reduceLeDiff, ↓Int.reduceEq, ↓Int.reduceLT, ↓Int.reduceLE, ↓reduceIte]
  simp -implicitDefEqProofs (maxSteps := 4000000) (disch := omega) only [go_sem, go_sem_proc, dr, Nat.min_def, ↓Nat.reduceBEq, ↓Nat.reduceEqDiff, ↓Nat.reduceLT, ↓Nat.reduceLeDiff, ↓Int.reduceEq, ↓Int.reduceLT, ↓Int.reduceLE, ↓reduceIte, h1, h2, h3, h4, h5, h6]
theorem truth_spec {b : Bool} : dw E 41 [.bool b] [] = some (.int .i64 (truthI b), []) := by
  refine dw_in (fn := Try.f41) rfl rfl (by decide) ?_
  cases b <;> simp -implicitDefEqProofs (maxSteps := 4000000) (disch := omega) only [go_sem, go_sem_proc, dr, Nat.min_def, ↓Nat.reduceBEq, ↓Nat.reduceEqDiff, ↓Nat.reduceLT, ↓Nat.reduceLeDiff, ↓Int.reduceEq, ↓Int.reduceLT, ↓Int.reduceLE, ↓reduceIte, truthI]
theorem not_spec {v : Int} : dw E 45 [.int .i64 v] [] = some (.int .i64 (notI v), []) := by
  refine dw_in (fn := Try.f45) rfl rfl (by decide) ?_
  unfold notI
  by_cases h1 : v = 1
  · subst h1; simp -implicitDefEqProofs (maxSteps := 4000000) (disch := omega) only [go_sem, go_sem_proc, dr, Nat.min_def, ↓Nat.reduceBEq, ↓Nat.reduceEqDiff, ↓Nat.reduceLT, ↓Nat.reduceLeDiff, ↓Int.reduceEq, ↓Int.reduceLT, ↓Int.reduceLE, ↓reduceIte]
  by_cases h2 : v = 2
  · subst h2; simp -implicitDefEqProofs (maxSteps := 4000000) (disch := omega) only [go_sem, go_sem_proc, dr, Nat.min_def, ↓Nat.reduceBEq, ↓Nat.reduceEqDiff, ↓Nat.reduceLT, ↓Nat.reduceLeDiff, ↓Int.reduceEq, ↓Int.reduceLT, ↓Int.reduceLE, ↓reduceIte]
  simp -implicitDefEqProofs (maxSteps := 4000000) (disch := omega) only [go_sem, go_sem_proc, dr, Nat.min_def, ↓Nat.reduceBEq, ↓Nat.reduceEqDiff, ↓Nat.reduceLT, ↓Nat.reduceLeDiff, ↓Int.reduceEq, ↓Int.reduceLT, ↓Int.reduceLE, ↓reduceIte, h1, h2]
theorem list_spec {k c o : Int} {v : Val} {n : Bool} {l : List Prd} {row : List Val} {d other : Int} (hl : l.length ≤ 1000000)
    (ih : ∀ q ∈ l, dw E 18 [.agg [.int .i64 q.kind, .int .i64 q.col, .int .i64 q.op, .bool q.val.null, .int .i64 q.val.kind, .int .i64 q.val.int, bl q.val.bytes, pl q.nil q.list], .sl 4 (row.map Val.pv)] [] = some (.int .i64 (q.eval row), [])) :
    dw E 44 [.agg [.int .i64 k, .int .i64 c, .int .i64 o, .bool v.null, .int .i64 v.kind, .int .i64 v.int, bl v.bytes, pl n l], .sl 4 (row.map Val.pv), .int .i64 d, .int .i64 other] [] = some (.int .i64 (listI d other (l.map (Prd.eval row))), []) := by
  refine dw_in (fn := Try.f44) rfl rfl (by decide) ?_
  simp -implicitDefEqProofs (maxSteps := 4000000) (disch := omega) only [go_sem, go_sem_proc, dr, Nat.min_def, ↓Nat.reduceBEq, ↓Nat.reduceEqDiff, ↓Nat.reduceLT, ↓Nat.reduceLeDiff, ↓Int.reduceEq, ↓Int.reduceLT, ↓Int.reduceLE, ↓reduceIte]
  refine runs_any (fun s : Nat × Int => (⟨[(1, .sl 4 (row.map Val.pv)), (2, .int .i64 d), (9, .int .i64 s.2), (15, pl n l), (16, .int .i64 l.length), (17, .int .i64 s.1)], [], 1⟩ : St)) (fun s => l.length - s.1) (0, other)
    (fun s => s.1 ≤ l.length ∧ listI d other (l.map (Prd.eval row)) = listI d s.2 ((l.drop s.1).map (Prd.eval row))) ⟨Nat.zero_le _, by simp⟩ ?_ ?_
  · simp -implicitDefEqProofs (maxSteps := 4000000) (disch := omega) only [go_sem, go_sem_proc, dr, Nat.min_def, ↓Nat.reduceBEq, ↓Nat.reduceEqDiff, ↓Nat.reduceLT, ↓Nat.reduceLeDiff, ↓Int.reduceEq, ↓Int.reduceLT, ↓Int.reduceLE, ↓reduceIte]
  · rintro ⟨i, out⟩ ⟨hi, he⟩
    dsimp only at hi he
    by_cases hlt : i < l.length
    · obtain ⟨q, hq, hqm, _⟩ := take_get hlt
      have hd : l.drop i = q :: l.drop (i + 1) := by rw [List.drop_eq_getElem_cons hlt, (List.getElem?_eq_some_iff.1 hq).2]
      rw [hd, List.map_cons, listI] at he
      have hev := ih q hqm
      by_cases hd' : q.eval row = d
      · rw [if_pos hd'] at he
        subst hd'
        simp -implicitDefEqProofs (maxSteps := 4000000) (disch := omega) only [go_sem, go_sem_proc, dr, Nat.min_def, ↓Nat.reduceBEq, ↓Nat.reduceEqDiff, ↓Nat.reduceLT, ↓Nat.reduceLeDiff, ↓Int.reduceEq, ↓Int.reduceLT, ↓Int.reduceLE, ↓reduceIte, hq, pl_get hlt, pv_eq, hev, he]
      · rw [if_neg hd'] at he
        by_cases h3 : q.eval row = 3
        · rw [if_pos h3] at he
          have h3' := eq_true h3
          simp -implicitDefEqProofs (maxSteps := 4000000) (disch := omega) only [go_sem, go_sem_proc, dr, Nat.min_def, ↓Nat.reduceBEq, ↓Nat.reduceEqDiff, ↓Nat.reduceLT, ↓Nat.reduceLeDiff, ↓Int.reduceEq, ↓Int.reduceLT, ↓Int.reduceLE, ↓reduceIte, hq, pl_get hlt, pv_eq, hev, hd', h3']
          exact ⟨(i + 1, 3), rfl, ⟨by omega, he⟩, by show l.length - (i + 1) < l.length - i; omega⟩
        · rw [if_neg h3] at he
          simp -implicitDefEqProofs (maxSteps := 4000000) (disch := omega) only [go_sem, go_sem_proc, dr, Nat.min_def, ↓Nat.reduceBEq, ↓Nat.reduceEqDiff, ↓Nat.reduceLT, ↓Nat.reduceLeDiff, ↓Int.reduceEq, ↓Int.reduceLT, ↓Int.reduceLE, ↓reduceIte, hq, pl_get hlt, pv_eq, hev, hd', h3]
          exact ⟨(i + 1, out), rfl, ⟨by omega, he⟩, by show l.length - (i + 1) < l.length - i; omega⟩
    · have hd : l.drop i = [] := List.drop_eq_nil_of_le (by omega)
      rw [hd, List.map_nil, listI] at he
      simp -implicitDefEqProofs (maxSteps := 4000000) (disch := omega) only [go_sem, go_sem_proc, dr, Nat.min_def, ↓Nat.reduceBEq, ↓Nat.reduceEqDiff, ↓Nat.reduceLT, ↓Nat.reduceLeDiff, ↓Int.reduceEq, ↓Int.reduceLT, ↓Int.reduceLE, ↓reduceIte, he]
end Go.Proofs.Ytgnjnkmjcahkeaa.D
