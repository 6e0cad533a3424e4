/- What one sees; transactions and stamps of numbers. -/
import Derived.Test.YtknapjbdgpjdjaaStam2
namespace Go.Proofs.Ytknapjbdgpjdjaa.D
open Go Go.Den
set_option linter.unusedSimpArgs false
set_option linter.unusedVariables false
set_option maxRecDepth 20000
set_option maxHeartbeats 8000000
theorem awake11 : dw E 11 [] [] = some (.bool true, []) := dw_of (k := 300) (by kernel_rfl)
theorem IsTx.form {X : PV} {L : List Tx} (h : IsTx X L) : X = .nils ∨ ∃ xs, X = .sl 4 xs := by
  obtain ⟨h | ⟨h, _⟩, _⟩ := h
  · exact .inr ⟨_, h⟩
  · exact .inl h
theorem Sees_spec {bt ba et ea me at' : Int} {X : PV} {L : List Tx} (h : IsTx X L) :
    dw E 10 [.agg [.int .i64 bt, .int .i64 ba, .int .i64 et, .int .i64 ea], .int .i64 me, .int .i64 at', X] [] =
      some (.tup [.bool (seesN bt ba et ea me at' L true).1, outPV (seesN bt ba et ea me at' L true).2], []) := by
  have hS := sees_spec (bt := bt) (ba := ba) (et := et) (ea := ea) (me := me) (at' := at') (mine := true) h
  have hX := h.form
  clear h
  obtain ⟨p, hp⟩ : ∃ p, seesN bt ba et ea me at' L true = p := ⟨_, rfl⟩
  rw [hp] at hS ⊢
  clear hp
  obtain ⟨s, o⟩ := p
  dsimp only at hS ⊢
  cases o with
  | nil =>
    simp only [outPV] at hS ⊢
    refine dw_in (fn := Try.f10) rfl body10 (by simp) ?_
    rcases hX with rfl | ⟨xs, rfl⟩ <;> simp -implicitDefEqProofs (maxSteps := 4000000) (disch := omega) only [go_sem, go_sem_proc, dr, Nat.min_def, ↓Nat.reduceBEq, ↓Nat.reduceEqDiff, ↓Nat.reduceLT, ↓Nat.reduceLeDiff, ↓Int.reduceEq, ↓Int.reduceLT, ↓Int.reduceLE, ↓reduceIte, hS] <;> (first | done | ((repeat' split) <;> (change _ = true; kernel_rfl)))
  | cons x r =>
    simp only [outPV] at hS ⊢
    generalize cpZ none (sortZ (x :: r)) = W at hS ⊢
    refine dw_in (fn := Try.f10) rfl body10 (by simp) ?_
    rcases hX with rfl | ⟨xs, rfl⟩ <;> simp -implicitDefEqProofs (maxSteps := 4000000) (disch := omega) only [go_sem, go_sem_proc, dr, Nat.min_def, ↓Nat.reduceBEq, ↓Nat.reduceEqDiff, ↓Nat.reduceLT, ↓Nat.reduceLeDiff, ↓Int.reduceEq, ↓Int.reduceLT, ↓Int.reduceLE, ↓reduceIte, hS] <;> (first | done | ((repeat' split) <;> (change _ = true; kernel_rfl)))
theorem Base_spec {bt ba et ea me at' : Int} {X : PV} {L : List Tx} (h : IsTx X L) :
    dw E 13 [.agg [.int .i64 bt, .int .i64 ba, .int .i64 et, .int .i64 ea], .int .i64 me, .int .i64 at', X] [] =
      some (.tup [.bool (seesN bt ba et ea me at' L false).1, outPV (seesN bt ba et ea me at' L false).2], []) := by
  have hS := sees_spec (bt := bt) (ba := ba) (et := et) (ea := ea) (me := me) (at' := at') (mine := false) h
  have hX := h.form
  clear h
  obtain ⟨p, hp⟩ : ∃ p, seesN bt ba et ea me at' L false = p := ⟨_, rfl⟩
  rw [hp] at hS ⊢
  clear hp
  obtain ⟨s, o⟩ := p
  dsimp only at hS ⊢
  cases o with
  | nil =>
    simp only [outPV] at hS ⊢
    refine dw_in (fn := Try.f13) rfl body13 (by simp) ?_
    rcases hX with rfl | ⟨xs, rfl⟩ <;> simp -implicitDefEqProofs (maxSteps := 4000000) (disch := omega) only [go_sem, go_sem_proc, dr, Nat.min_def, ↓Nat.reduceBEq, ↓Nat.reduceEqDiff, ↓Nat.reduceLT, ↓Nat.reduceLeDiff, ↓Int.reduceEq, ↓Int.reduceLT, ↓Int.reduceLE, ↓reduceIte, hS] <;> (first | done | ((repeat' split) <;> (change _ = true; kernel_rfl)))
  | cons x r =>
    simp only [outPV] at hS ⊢
    generalize cpZ none (sortZ (x :: r)) = W at hS ⊢
    refine dw_in (fn := Try.f13) rfl body13 (by simp) ?_
    rcases hX with rfl | ⟨xs, rfl⟩ <;> simp -implicitDefEqProofs (maxSteps := 4000000) (disch := omega) only [go_sem, go_sem_proc, dr, Nat.min_def, ↓Nat.reduceBEq, ↓Nat.reduceEqDiff, ↓Nat.reduceLT, ↓Nat.reduceLeDiff, ↓Int.reduceEq, ↓Int.reduceLT, ↓Int.reduceLE, ↓reduceIte, hS] <;> (first | done | ((repeat' split) <;> (change _ = true; kernel_rfl)))
/-- stamps of numbers -/
def stampT (n : Int) : Int := if n % 2 = 0 then 0 else n / 2 % 8 % 6 + 1
def stampA (n : Int) : Int := if n % 2 = 0 then n / 2 % 16 else 0
theorem Stamp_spec {n : Int} : dw E 14 [.int .i64 n] [] = some (.agg [.int .i64 (stampT n), .int .i64 (stampA n)], []) := by
  refine dw_in (fn := Try.f14) rfl body14 (by simp) ?_
  unfold stampT stampA
  rcases (show n % 2 = 0 ∨ n % 2 = 1 by omega) with h | h
  · simp -implicitDefEqProofs (maxSteps := 4000000) (disch := omega) only [go_sem, go_sem_proc, dr, Nat.min_def, ↓Nat.reduceBEq, ↓Nat.reduceEqDiff, ↓Nat.reduceLT, ↓Nat.reduceLeDiff, ↓Int.reduceEq, ↓Int.reduceLT, ↓Int.reduceLE, ↓reduceIte, sand1, sand15, h]
  · simp -implicitDefEqProofs (maxSteps := 4000000) (disch := omega) only [go_sem, go_sem_proc, dr, Nat.min_def, ↓Nat.reduceBEq, ↓Nat.reduceEqDiff, ↓Nat.reduceLT, ↓Nat.reduceLeDiff, ↓Int.reduceEq, ↓Int.reduceLT, ↓Int.reduceLE, ↓reduceIte, sand1, sand7, h]
def tx (i : Nat) (n : Int) : Tx := ⟨i + 1, n / 8 % 4 + 1, n / 32 % 8, if n / 8 % 4 + 1 = 1 then 0 else n / 32 % 8 + 1 + n / 256 % 8⟩
def txsN (l : List Int) : Nat → List Tx
  | 0 => []
  | i + 1 => txsN l i ++ (match l[i]? with | some n => if n % 8 = 0 then [] else [tx i n] | none => [])
theorem txsN_len (l : List Int) : ∀ i, (txsN l i).length ≤ i
  | 0 => Nat.le_refl _
  | i + 1 => by
    have := txsN_len l i
    unfold txsN
    rw [List.length_append]
    split
    · split <;> simp <;> omega
    · simp; omega
theorem txs_snoc (l : List Int) (i : Nat) (n : Int) (h : l[i]? = some n) (h8 : ¬ n % 8 = 0) : (txsN l (i + 1)).map Tx.pv = (txsN l i).map Tx.pv ++ [(tx i n).pv] := by
  rw [txsN, h]
  simp only [if_neg h8, List.map_append, List.map_cons, List.map_nil]
theorem txs_same (l : List Int) (i : Nat) (n : Int) (h : l[i]? = some n) (h8 : n % 8 = 0) : (txsN l (i + 1)).map Tx.pv = (txsN l i).map Tx.pv := by
  rw [txsN, h]
  simp only [if_pos h8, List.append_nil]
def txSt (l : List Int) (i : Nat) : St := ⟨[(0, .sl 1 (ints .i64 l)), (3, .h 2097344), (4, .int .i64 i)], [(2097344, some ⟨true, .row 23 4 ((txsN l i).map Tx.pv)⟩)], 1⟩
theorem Txns_spec {l : List Int} : dw E 12 [.sl 1 (ints .i64 l)] [] = some (.nr 23 4 ((txsN l (min l.length 5)).map Tx.pv), []) := by
  refine dw_in (fn := Try.f12) rfl body12 (by simp) ?_
  simp -implicitDefEqProofs (maxSteps := 4000000) (disch := omega) only [go_sem, go_sem_proc, dr, Nat.min_def, ↓Nat.reduceBEq, ↓Nat.reduceEqDiff, ↓Nat.reduceLT, ↓Nat.reduceLeDiff, ↓Int.reduceEq, ↓Int.reduceLT, ↓Int.reduceLE, ↓reduceIte]
  refine runs_for (txSt l) (min l.length 5) ?_ (fun i hi => ?_) ?_
  · simp -implicitDefEqProofs (maxSteps := 4000000) (disch := omega) only [go_sem, go_sem_proc, dr, Nat.min_def, ↓Nat.reduceBEq, ↓Nat.reduceEqDiff, ↓Nat.reduceLT, ↓Nat.reduceLeDiff, ↓Int.reduceEq, ↓Int.reduceLT, ↓Int.reduceLE, ↓reduceIte, txSt, txsN, List.map_nil]
  · have h5 : i < 5 := by omega
    have hlt : i < l.length := by omega
    clear hi
    obtain ⟨n, hn, _, _⟩ := take_get hlt
    have hlen := txsN_len l i
    by_cases h8 : n % 8 = 0
    · have hr := txs_same l i n hn h8
      simp -implicitDefEqProofs (maxSteps := 4000000) (disch := omega) only [go_sem, go_sem_proc, dr, Nat.min_def, ↓Nat.reduceBEq, ↓Nat.reduceEqDiff, ↓Nat.reduceLT, ↓Nat.reduceLeDiff, ↓Int.reduceEq, ↓Int.reduceLT, ↓Int.reduceLE, ↓reduceIte, txSt, hn, sand7, h8, hr]
    · have hr := txs_snoc l i n hn h8
      have h8 := eq_false h8
      by_cases h1 : n / 8 % 4 = 0
      · have he : (tx i n).pv = [.int .i64 (i + 1), .int .i64 1, .int .i64 (n / 32 % 8), .int .i64 0] := by simp only [tx, Tx.pv, h1]; rfl
        rw [he] at hr
        simp -implicitDefEqProofs (maxSteps := 4000000) (disch := omega) only [go_sem, go_sem_proc, dr, Nat.min_def, ↓Nat.reduceBEq, ↓Nat.reduceEqDiff, ↓Nat.reduceLT, ↓Nat.reduceLeDiff, ↓Int.reduceEq, ↓Int.reduceLT, ↓Int.reduceLE, ↓reduceIte, txSt, hn, sand7, sand3, h8, h1, List.length_map, hr]
        ((repeat' split) <;> (change _ = true; kernel_rfl))
      · have he : (tx i n).pv = [.int .i64 (i + 1), .int .i64 (n / 8 % 4 + 1), .int .i64 (n / 32 % 8), .int .i64 (n / 32 % 8 + 1 + n / 256 % 8)] := by simp only [tx, Tx.pv]; rw [if_neg (by omega)]
        have h1' : 0 < n / 8 % 4 := by omega
        clear h1
        rw [he] at hr
        simp -implicitDefEqProofs (maxSteps := 4000000) (disch := omega) only [go_sem, go_sem_proc, dr, Nat.min_def, ↓Nat.reduceBEq, ↓Nat.reduceEqDiff, ↓Nat.reduceLT, ↓Nat.reduceLeDiff, ↓Int.reduceEq, ↓Int.reduceLT, ↓Int.reduceLE, ↓reduceIte, txSt, hn, sand7, sand3, h8, List.length_map, hr]
        refine ⟨?_, ?_⟩ <;> ((repeat' split) <;> (change _ = true; kernel_rfl))
  · rcases (show l.length ≤ 5 ∨ 5 < l.length by omega) with h5 | h5
    · rw [Nat.min_eq_left h5]
      simp -implicitDefEqProofs (maxSteps := 4000000) (disch := omega) only [go_sem, go_sem_proc, dr, Nat.min_def, ↓Nat.reduceBEq, ↓Nat.reduceEqDiff, ↓Nat.reduceLT, ↓Nat.reduceLeDiff, ↓Int.reduceEq, ↓Int.reduceLT, ↓Int.reduceLE, ↓reduceIte, txSt]
    · rw [Nat.min_eq_right (by omega)]
      simp -implicitDefEqProofs (maxSteps := 4000000) (disch := omega) only [go_sem, go_sem_proc, dr, Nat.min_def, ↓Nat.reduceBEq, ↓Nat.reduceEqDiff, ↓Nat.reduceLT, ↓Nat.reduceLeDiff, ↓Int.reduceEq, ↓Int.reduceLT, ↓Int.reduceLE, ↓reduceIte, txSt]
def txsL (l : List Int) : List Tx := txsN l (min l.length 5)
theorem txsL_is (l : List Int) : IsTx (.sl 4 ((txsL l).map Tx.pv)) (txsL l) := ⟨.inl rfl, by have := txsN_len l (min l.length 5); unfold txsL; omega⟩
theorem txsN_id (l : List Int) : ∀ (n : Nat) x, x ∈ txsN l n → 1 ≤ x.id ∧ x.id ≤ n
  | 0, x, h => by cases h
  | i + 1, x, h => by
    unfold txsN at h
    rcases List.mem_append.1 h with h | h
    · have := txsN_id l i x h; omega
    · split at h
      · split at h
        · cases h
        · simp only [List.mem_singleton] at h; subst h; simp only [tx]; omega
      · cases h
theorem stateN_none {k : Int} {L : List Tx} (h : ∀ x ∈ L, x.id ≠ k) : stateN k L = ⟨0, 0, 0, 0⟩ := by
  induction L with
  | nil => rfl
  | cons x r ih => rw [stateN, if_neg (h x List.mem_cons_self), ih fun y hy => h y (List.mem_cons_of_mem _ hy)]
theorem Same_nil : dw E 15 [.nils, .nils] [] = some (.bool true, []) := dw_of (k := 60) (by kernel_rfl)
theorem Same_one {x : Int} : dw E 15 [.sl 1 (ints .i64 [x]), .sl 1 (ints .i64 [x])] [] = some (.bool true, []) := by
  refine dw_in (fn := Try.f15) rfl body15 (by simp) ?_
  simp -implicitDefEqProofs (maxSteps := 4000000) (disch := omega) only [go_sem, go_sem_proc, dr, Nat.min_def, ↓Nat.reduceBEq, ↓Nat.reduceEqDiff, ↓Nat.reduceLT, ↓Nat.reduceLeDiff, ↓Int.reduceEq, ↓Int.reduceLT, ↓Int.reduceLE, ↓reduceIte]
  refine runs_for (fun i : Nat => (⟨[(0, .sl 1 (ints .i64 [x])), (1, .sl 1 (ints .i64 [x])), (5, .int .i64 i)], [], 1⟩ : St)) 1 ?_ (fun i hi => ?_) ?_
  · simp -implicitDefEqProofs (maxSteps := 4000000) (disch := omega) only [go_sem, go_sem_proc, dr, Nat.min_def, ↓Nat.reduceBEq, ↓Nat.reduceEqDiff, ↓Nat.reduceLT, ↓Nat.reduceLeDiff, ↓Int.reduceEq, ↓Int.reduceLT, ↓Int.reduceLE, ↓reduceIte]
  · obtain rfl : i = 0 := by omega
    simp -implicitDefEqProofs (maxSteps := 4000000) (disch := omega) only [go_sem, go_sem_proc, dr, Nat.min_def, ↓Nat.reduceBEq, ↓Nat.reduceEqDiff, ↓Nat.reduceLT, ↓Nat.reduceLeDiff, ↓Int.reduceEq, ↓Int.reduceLT, ↓Int.reduceLE, ↓reduceIte]
    first | done | ((repeat' split) <;> (change _ = true; kernel_rfl))
  · simp -implicitDefEqProofs (maxSteps := 4000000) (disch := omega) only [go_sem, go_sem_proc, dr, Nat.min_def, ↓Nat.reduceBEq, ↓Nat.reduceEqDiff, ↓Nat.reduceLT, ↓Nat.reduceLeDiff, ↓Int.reduceEq, ↓Int.reduceLT, ↓Int.reduceLE, ↓reduceIte]
theorem May9 {bt ba : Int} {X : PV} {L : List Tx} (h : IsTx X L) (h0 : stateN 9 L = ⟨0, 0, 0, 0⟩) : dw E 16 [.agg [.int .i64 bt, .int .i64 ba, .int .i64 9, .int .i64 0], .int .i64 8, X] [] = some (.int .i64 1, []) := by
  have hS := State_spec (k := 9) h
  rw [h0] at hS
  have hN := Never_spec (t := 9) (a := 0)
  have hX := h.form
  clear h h0
  refine dw_in (fn := Try.f16) rfl body16 (by simp) ?_
  rcases hX with rfl | ⟨xs, rfl⟩ <;> simp -implicitDefEqProofs (maxSteps := 4000000) (disch := omega) only [go_sem, go_sem_proc, dr, Nat.min_def, ↓Nat.reduceBEq, ↓Nat.reduceEqDiff, ↓Nat.reduceLT, ↓Nat.reduceLeDiff, ↓Int.reduceEq, ↓Int.reduceLT, ↓Int.reduceLE, ↓reduceIte, hS, hN] <;> (first | done | ((repeat' split) <;> (change _ = true; kernel_rfl)))
end Go.Proofs.Ytknapjbdgpjdjaa.D
