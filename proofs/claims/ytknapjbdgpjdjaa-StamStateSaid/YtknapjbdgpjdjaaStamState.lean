/- StamState: what the law comes to. -/
import Derived.Test.YtknapjbdgpjdjaaStam3
import Derived.Test.YtknapjbdgpjdjaaDenO
namespace Go.Proofs.Ytknapjbdgpjdjaa.D
open Go Go.Den
set_option linter.unusedSimpArgs false
set_option linter.unusedVariables false
set_option maxRecDepth 20000
set_option maxHeartbeats 8000000
theorem stateN_drop {k : Int} {L : List Tx} {i : Nat} {x : Tx} (h : L[i]? = some x) : stateN k (L.drop i) = if x.id = k then x else stateN k (L.drop (i + 1)) := by
  obtain ⟨hi, hx⟩ := List.getElem?_eq_some_iff.1 h
  rw [List.drop_eq_getElem_cons hi, hx, stateN]
def ssSt (L : List Tx) (id : Int) (i : Nat) : St := ⟨[(0, .sl 4 (L.map Tx.pv)), (16, .h 2098176), (17, .int .i64 2), (18, .int .i64 i)], [(2098176, some ⟨true, .row 3 1 (ints .i64 [id, id % 8])⟩)], 1⟩
def swSt (L : List Tx) (id k : Int) (i j : Nat) : St := ⟨[(0, .sl 4 (L.map Tx.pv)), (6, .int .i64 k), (7, .pb 1048583 0), (8, .int .i64 (j - 1)), (16, .h 2098176), (17, .int .i64 2), (18, .int .i64 i)], [(1048583, some ⟨true, .box (stateN k (L.drop j)).pv⟩), (2098176, some ⟨true, .row 3 1 (ints .i64 [id, id % 8])⟩)], 1⟩
theorem StamState_spec {L : List Tx} {id : Int} : dw E 6 [.sl 4 (L.map Tx.pv), .int .i64 id] [] = some (.bool true, []) := by
  have h11 := awake11
  by_cases hl : 20 < L.length
  · refine dw_in (fn := Try.f6) rfl body6 (by simp) ?_
    simp -implicitDefEqProofs (maxSteps := 4000000) (disch := omega) only [go_sem, go_sem_proc, dr, Nat.min_def, ↓Nat.reduceBEq, ↓Nat.reduceEqDiff, ↓Nat.reduceLT, ↓Nat.reduceLeDiff, ↓Int.reduceEq, ↓Int.reduceLT, ↓Int.reduceLE, ↓reduceIte, h11]
  · have hl : L.length ≤ 20 := by omega
    refine dw_in (fn := Try.f6) rfl body6 (by simp) ?_
    simp -implicitDefEqProofs (maxSteps := 4000000) (disch := omega) only [go_sem, go_sem_proc, dr, Nat.min_def, ↓Nat.reduceBEq, ↓Nat.reduceEqDiff, ↓Nat.reduceLT, ↓Nat.reduceLeDiff, ↓Int.reduceEq, ↓Int.reduceLT, ↓Int.reduceLE, ↓reduceIte, h11, sand7]
    refine runs_for (ssSt L id) 2 ?_ (fun i hi => ?_) ?_
    · simp -implicitDefEqProofs (maxSteps := 4000000) (disch := omega) only [go_sem, go_sem_proc, dr, Nat.min_def, ↓Nat.reduceBEq, ↓Nat.reduceEqDiff, ↓Nat.reduceLT, ↓Nat.reduceLeDiff, ↓Int.reduceEq, ↓Int.reduceLT, ↓Int.reduceLE, ↓reduceIte, ssSt]
    · obtain ⟨k, hk⟩ : ∃ k, (i = 0 ∧ k = id ∨ i = 1 ∧ k = id % 8) := by
        rcases (show i = 0 ∨ i = 1 by omega) with h | h
        · exact ⟨_, .inl ⟨h, rfl⟩⟩
        · exact ⟨_, .inr ⟨h, rfl⟩⟩
      have hg : (ints IntKind.i64 [id, id % 8])[i]? = some [.int .i64 k] := by
        rcases hk with ⟨rfl, rfl⟩ | ⟨rfl, rfl⟩ <;> rfl
      have hgI : i < (ints IntKind.i64 [id, id % 8]).length := by exact hi
      have s1 := State_spec (k := k) (X := .sl 4 (L.map Tx.pv)) (L := L) ⟨.inl rfl, by omega⟩
      have s2 := State_spec (k := k) (X := .nils) (L := []) ⟨.inr ⟨rfl, rfl⟩, by simp⟩
      have s3 := State_spec (k := k) (X := .sl 4 ((⟨k, 0, 0, 77⟩ :: L : List Tx).map Tx.pv)) (L := ⟨k, 0, 0, 77⟩ :: L) ⟨.inl rfl, by simp; omega⟩
      rw [stateN, if_pos rfl] at s3
      simp only [stateN] at s2
      clear hk
      simp -implicitDefEqProofs (maxSteps := 4000000) (disch := omega) only [go_sem, go_sem_proc, dr, Nat.min_def, ↓Nat.reduceBEq, ↓Nat.reduceEqDiff, ↓Nat.reduceLT, ↓Nat.reduceLeDiff, ↓Int.reduceEq, ↓Int.reduceLT, ↓Int.reduceLE, ↓reduceIte, ssSt, hg]
      refine runs_any (swSt L id k i) (fun j => j) L.length (fun j => j ≤ L.length) (Nat.le_refl _) ?_ ?_
      · have h0 : stateN k (L.drop L.length) = ⟨0, 0, 0, 0⟩ := by rw [List.drop_length]; rfl
        simp -implicitDefEqProofs (maxSteps := 4000000) (disch := omega) only [go_sem, go_sem_proc, dr, Nat.min_def, ↓Nat.reduceBEq, ↓Nat.reduceEqDiff, ↓Nat.reduceLT, ↓Nat.reduceLeDiff, ↓Int.reduceEq, ↓Int.reduceLT, ↓Int.reduceLE, ↓reduceIte, swSt, h0, Tx.pv]
      · intro j hj
        cases j with
        | zero =>
          rw [List.map_cons, show Tx.pv ⟨k, 0, 0, 77⟩ = [.int .i64 k, .int .i64 0, .int .i64 0, .int .i64 77] from rfl] at s3
          dsimp only at s3
          simp -implicitDefEqProofs (maxSteps := 4000000) (disch := omega) only [go_sem, go_sem_proc, dr, Nat.min_def, ↓Nat.reduceBEq, ↓Nat.reduceEqDiff, ↓Nat.reduceLT, ↓Nat.reduceLeDiff, ↓Int.reduceEq, ↓Int.reduceLT, ↓Int.reduceLE, ↓reduceIte, swSt, List.drop_zero, s1, s2, s3, Tx.pv]
          first | done | ((repeat' split) <;> (change _ = true; kernel_rfl))
        | succ j =>
          have hlt : j < L.length := hj
          obtain ⟨x, hx, _, _⟩ := take_get hlt
          have hd := stateN_drop (k := k) hx
          clear hgI hi
          by_cases hk : x.id = k
          · rw [if_pos hk] at hd
            clear s1 s2 s3
            simp -implicitDefEqProofs (maxSteps := 4000000) (disch := omega) only [go_sem, go_sem_proc, dr, Nat.min_def, ↓Nat.reduceBEq, ↓Nat.reduceEqDiff, ↓Nat.reduceLT, ↓Nat.reduceLeDiff, ↓Int.reduceEq, ↓Int.reduceLT, ↓Int.reduceLE, ↓reduceIte, swSt, hx, Tx.pv, hk]
            exact ⟨j, by rw [hd, hk], by omega, by omega⟩
          · rw [if_neg hk] at hd
            have hk := eq_false hk
            clear s1 s2 s3
            simp -implicitDefEqProofs (maxSteps := 4000000) (disch := omega) only [go_sem, go_sem_proc, dr, Nat.min_def, ↓Nat.reduceBEq, ↓Nat.reduceEqDiff, ↓Nat.reduceLT, ↓Nat.reduceLeDiff, ↓Int.reduceEq, ↓Int.reduceLT, ↓Int.reduceLE, ↓reduceIte, swSt, hx, Tx.pv, hk]
            exact ⟨j, by rw [hd], by omega, by omega⟩
    · simp -implicitDefEqProofs (maxSteps := 4000000) (disch := omega) only [go_sem, go_sem_proc, dr, Nat.min_def, ↓Nat.reduceBEq, ↓Nat.reduceEqDiff, ↓Nat.reduceLT, ↓Nat.reduceLeDiff, ↓Int.reduceEq, ↓Int.reduceLT, ↓Int.reduceLE, ↓reduceIte, ssSt, h11]

theorem cel23 : Try.prog.cellsOf 23 = 4 := by kernel_rfl
theorem shp_int {n : Nat} {ps : List PV} (h : Shp Try.prog n 3 ps) : ∃ z, ps = [.int .i64 z] := by
  cases n with
  | zero => cases h
  | succ n =>
    unfold Shp at h
    rw [Try.underlying3] at h
    obtain ⟨z, h, _⟩ := h
    exact ⟨z, h⟩
theorem shp_tx {n : Nat} {ps : List PV} (h : Shp Try.prog n 23 ps) : ∃ x : Tx, ps = x.pv := by
  cases n with
  | zero => cases h
  | succ n =>
    unfold Shp at h
    rw [Try.underlying23] at h
    simp only [ShpF] at h
    obtain ⟨a, b, rfl, h1, a2, b2, rfl, h2, a3, b3, rfl, h3, a4, b4, rfl, h4, rfl⟩ := h
    obtain ⟨z1, rfl⟩ := shp_int h1
    obtain ⟨z2, rfl⟩ := shp_int h2
    obtain ⟨z3, rfl⟩ := shp_int h3
    obtain ⟨z4, rfl⟩ := shp_int h4
    exact ⟨⟨z1, z2, z3, z4⟩, rfl⟩
theorem shp_txs {n : Nat} {x : PV} (h : Shp Try.prog n 24 [x]) : ∃ L : List Tx, x = .sl 4 (L.map Tx.pv) := by
  cases n with
  | zero => cases h
  | succ n =>
    unfold Shp at h
    rw [Try.underlying24] at h
    obtain ⟨xs, hx, _, h⟩ := h
    rw [cel23] at hx
    simp only [List.cons.injEq, and_true] at hx
    subst hx
    have : ∀ xs : List (List PV), (∀ x ∈ xs, Shp Try.prog n 23 x) → ∃ L : List Tx, xs = L.map Tx.pv := by
      intro xs
      induction xs with
      | nil => intro _; exact ⟨[], rfl⟩
      | cons a r ih =>
        intro h
        obtain ⟨x, rfl⟩ := shp_tx (h _ List.mem_cons_self)
        obtain ⟨L, rfl⟩ := ih fun y hy => h y (List.mem_cons_of_mem _ hy)
        exact ⟨x :: L, rfl⟩
    obtain ⟨L, rfl⟩ := this xs h
    exact ⟨L, rfl⟩
end Go.Proofs.Ytknapjbdgpjdjaa.D
