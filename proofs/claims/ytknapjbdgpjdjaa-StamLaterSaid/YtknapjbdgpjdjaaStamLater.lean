/- StamLater: what the law comes to. -/
import Derived.Test.YtknapjbdgpjdjaaStam3
namespace Go.Proofs.Ytknapjbdgpjdjaa.D
open Go Go.Den
set_option linter.unusedSimpArgs false
set_option linter.unusedVariables false
set_option maxRecDepth 20000
set_option maxHeartbeats 8000000
def whenN (t a : Int) (L : List Tx) : Int := if t = 0 then a else if (stateN t L).st = 2 ∨ (stateN t L).st = 3 then (stateN t L).e else 99
theorem holdsN_when {t a at' : Int} {L : List Tx} (h : at' ≤ 15) : (holdsN t a at' L).1 = decide (whenN t a L ≤ at') := by
  unfold holdsN whenN isN
  by_cases h0 : t = 0
  · rw [if_pos h0, if_pos h0]
  · rw [if_neg h0, if_neg h0]
    by_cases h2 : (stateN t L).st = 2
    · simp [h2]
    · by_cases h3 : (stateN t L).st = 3
      · simp [h3]
      · simp [h2, h3]; omega
theorem later_plain {t a T A lo hi : Int} {L : List Tx} (h1 : lo ≤ hi) (h2 : hi ≤ 15) :
    ((seesN t a T A 0 lo L true).1 = true → (seesN t a T A 0 hi L true).1 = false → (decide (T = 0) && decide (A = 0)) = false ∧ lo < whenN T A L ∧ whenN T A L ≤ hi) ∧
    ((seesN t a T A 0 hi L true).1 = true → (seesN t a T A 0 lo L true).1 = false → lo < whenN t a L ∧ whenN t a L ≤ hi) := by
  have e1 := holdsN_when (t := t) (a := a) (at' := lo) (L := L) (by omega)
  have e2 := holdsN_when (t := t) (a := a) (at' := hi) (L := L) (by omega)
  have e3 := holdsN_when (t := T) (a := A) (at' := lo) (L := L) (by omega)
  have e4 := holdsN_when (t := T) (a := A) (at' := hi) (L := L) (by omega)
  unfold seesN endN begN
  simp only [not_true_eq_false, and_false, if_false, e1, e2]
  generalize whenN t a L = wb at *
  by_cases hz : T = 0 ∧ A = 0
  · simp only [hz, and_self, if_true]
    constructor
    · intro q1 q2
      split at q1 <;> split at q2 <;> simp_all <;> omega
    · intro q1 q2
      split at q1 <;> split at q2 <;> simp_all <;> omega
  · simp only [if_neg hz, e3, e4]
    generalize whenN T A L = we at *
    have hz' : (decide (T = 0) && decide (A = 0)) = false := by
      rw [Bool.eq_false_iff]; intro e; simp at e; exact hz e
    constructor
    · intro q1 q2
      refine ⟨hz', ?_⟩
      split at q1 <;> split at q2 <;> simp_all <;> omega
    · intro q1 q2
      split at q1 <;> split at q2 <;> simp_all <;> omega
theorem When_spec {t a : Int} {rows : List (List PV)} {L : List Tx} (h : IsTx (.sl 4 rows) L) :
    dw E 17 [.agg [.int .i64 t, .int .i64 a], .pb 16777216 0] [[.sl 4 rows]] = some (.int .i64 (whenN t a L), [[.sl 4 rows]]) := by
  have hS := State_spec (k := t) h
  clear h
  unfold whenN
  by_cases h0 : t = 0
  · subst h0
    refine dw_in (fn := Try.f17) rfl body17 (by simp) ?_
    simp -implicitDefEqProofs (maxSteps := 4000000) (disch := omega) only [go_sem, go_sem_proc, dr, Nat.min_def, ↓Nat.reduceBEq, ↓Nat.reduceEqDiff, ↓Nat.reduceLT, ↓Nat.reduceLeDiff, ↓Int.reduceEq, ↓Int.reduceLT, ↓Int.reduceLE, ↓reduceIte]
  · rw [if_neg h0]
    have h0 := eq_false h0
    obtain ⟨x, hx⟩ : ∃ x, stateN t L = x := ⟨_, rfl⟩
    rw [hx] at hS ⊢
    clear hx
    obtain ⟨i, st, b, e⟩ := x
    dsimp only at hS ⊢
    by_cases h2 : st = 2
    · subst h2
      refine dw_in (fn := Try.f17) rfl body17 (by simp) ?_
      simp -implicitDefEqProofs (maxSteps := 4000000) (disch := omega) only [go_sem, go_sem_proc, dr, Nat.min_def, ↓Nat.reduceBEq, ↓Nat.reduceEqDiff, ↓Nat.reduceLT, ↓Nat.reduceLeDiff, ↓Int.reduceEq, ↓Int.reduceLT, ↓Int.reduceLE, ↓reduceIte, hS, h0, true_or]
    · by_cases h3 : st = 3
      · subst h3
        refine dw_in (fn := Try.f17) rfl body17 (by simp) ?_
        simp -implicitDefEqProofs (maxSteps := 4000000) (disch := omega) only [go_sem, go_sem_proc, dr, Nat.min_def, ↓Nat.reduceBEq, ↓Nat.reduceEqDiff, ↓Nat.reduceLT, ↓Nat.reduceLeDiff, ↓Int.reduceEq, ↓Int.reduceLT, ↓Int.reduceLE, ↓reduceIte, hS, h0, or_true]
      · have h2 := eq_false h2
        have h3 := eq_false h3
        refine dw_in (fn := Try.f17) rfl body17 (by simp) ?_
        simp -implicitDefEqProofs (maxSteps := 4000000) (disch := omega) only [go_sem, go_sem_proc, dr, Nat.min_def, ↓Nat.reduceBEq, ↓Nat.reduceEqDiff, ↓Nat.reduceLT, ↓Nat.reduceLeDiff, ↓Int.reduceEq, ↓Int.reduceLT, ↓Int.reduceLE, ↓reduceIte, hS, h0, h2, h3, or_self]
theorem outPV_form (l : List Int) : outPV l = .nils ∨ ∃ W, outPV l = .nr 3 1 (ints .i64 W) := by
  cases l with
  | nil => exact .inl rfl
  | cons x r => exact .inr ⟨_, rfl⟩
theorem later_walk {l : List Int} {v x y t a T A T' A' w w' m M : Int} {rows : List (List PV)} {b1 b2 : Bool} {O1 O2 : PV}
    (hm : (if y % 16 < x % 16 then y % 16 else x % 16) = m) (hM : (if y % 16 > x % 16 then y % 16 else x % 16) = M)
    (hT : dw E 12 [.sl 1 (ints .i64 l)] [] = some (.nr 23 4 rows, []))
    (hS : dw E 14 [.int .i64 v] [] = some (.agg [.int .i64 t, .int .i64 a], []))
    (hS2 : dw E 14 [.int .i64 (v / 256)] [] = some (.agg [.int .i64 T', .int .i64 A'], []))
    (hv : (v / 65536 % 2 = 0 ∧ T = 0 ∧ A = 0) ∨ (v / 65536 % 2 = 1 ∧ T = T' ∧ A = A'))
    (s1 : dw E 10 [.agg [.int .i64 t, .int .i64 a, .int .i64 T, .int .i64 A], .int .i64 0, .int .i64 (m), .sl 4 rows] [] = some (.tup [.bool b1, O1], []))
    (s2 : dw E 10 [.agg [.int .i64 t, .int .i64 a, .int .i64 T, .int .i64 A], .int .i64 0, .int .i64 (M), .sl 4 rows] [] = some (.tup [.bool b2, O2], []))
    (f1 : O1 = .nils ∨ ∃ W, O1 = .nr 3 1 (ints .i64 W)) (f2 : O2 = .nils ∨ ∃ W, O2 = .nr 3 1 (ints .i64 W))
    (hwb : dw E 17 [.agg [.int .i64 t, .int .i64 a], .pb 16777216 0] [[.sl 4 rows]] = some (.int .i64 w, [[.sl 4 rows]]))
    (hwe : dw E 17 [.agg [.int .i64 T, .int .i64 A], .pb 16777216 0] [[.sl 4 rows]] = some (.int .i64 w', [[.sl 4 rows]]))
    (p1 : b1 = true → b2 = false → (decide (T = 0) && decide (A = 0)) = false ∧ m < w' ∧ w' ≤ M)
    (p2 : b2 = true → b1 = false → m < w ∧ w ≤ M) :
    dw E 5 [.sl 1 (ints .i64 l), .int .i64 v, .int .i64 x, .int .i64 y] [] = some (.bool true, []) := by
  have h11 := awake11
  cases b1 <;> cases b2
  · clear p1 p2
    rcases hv with ⟨hv, rfl, rfl⟩ | ⟨hv, rfl, rfl⟩ <;> rcases f1 with rfl | ⟨W1, rfl⟩ <;> rcases f2 with rfl | ⟨W2, rfl⟩ <;> (refine dw_in (fn := Try.f5) rfl body5 (by simp) ?_) <;> simp -implicitDefEqProofs (maxSteps := 4000000) (disch := omega) only [go_sem, go_sem_proc, dr, Nat.min_def, ↓Nat.reduceBEq, ↓Nat.reduceEqDiff, ↓Nat.reduceLT, ↓Nat.reduceLeDiff, ↓Int.reduceEq, ↓Int.reduceLT, ↓Int.reduceLE, ↓reduceIte, hT, hS, hS2, sand15, sand1, hv, hm, hM, s1, s2, h11] <;> (first | done | ((repeat' split) <;> (change _ = true; kernel_rfl)))
  · obtain ⟨q1, q2⟩ := p2 rfl rfl
    clear p1 p2
    rcases hv with ⟨hv, rfl, rfl⟩ | ⟨hv, rfl, rfl⟩ <;> rcases f1 with rfl | ⟨W1, rfl⟩ <;> rcases f2 with rfl | ⟨W2, rfl⟩ <;> (refine dw_in (fn := Try.f5) rfl body5 (by simp) ?_) <;> simp -implicitDefEqProofs (maxSteps := 4000000) (disch := omega) only [go_sem, go_sem_proc, dr, Nat.min_def, ↓Nat.reduceBEq, ↓Nat.reduceEqDiff, ↓Nat.reduceLT, ↓Nat.reduceLeDiff, ↓Int.reduceEq, ↓Int.reduceLT, ↓Int.reduceLE, ↓reduceIte, hT, hS, hS2, sand15, sand1, hv, hm, hM, s1, s2, hwb, h11] <;> (first | done | ((repeat' split) <;> (change _ = true; kernel_rfl)))
  · obtain ⟨q0, q1, q2⟩ := p1 rfl rfl
    clear p1 p2
    rcases hv with ⟨hv, rfl, rfl⟩ | ⟨hv, rfl, rfl⟩
    · cases q0
    · rcases f1 with rfl | ⟨W1, rfl⟩ <;> rcases f2 with rfl | ⟨W2, rfl⟩ <;> (refine dw_in (fn := Try.f5) rfl body5 (by simp) ?_) <;> simp -implicitDefEqProofs (maxSteps := 4000000) (disch := omega) only [go_sem, go_sem_proc, dr, Nat.min_def, ↓Nat.reduceBEq, ↓Nat.reduceEqDiff, ↓Nat.reduceLT, ↓Nat.reduceLeDiff, ↓Int.reduceEq, ↓Int.reduceLT, ↓Int.reduceLE, ↓reduceIte, hT, hS, hS2, sand15, sand1, hv, hm, hM, s1, s2, hwe, q0, h11] <;> (first | done | ((repeat' split) <;> (change _ = true; kernel_rfl)))
  · clear p1 p2
    rcases hv with ⟨hv, rfl, rfl⟩ | ⟨hv, rfl, rfl⟩ <;> rcases f1 with rfl | ⟨W1, rfl⟩ <;> rcases f2 with rfl | ⟨W2, rfl⟩ <;> (refine dw_in (fn := Try.f5) rfl body5 (by simp) ?_) <;> simp -implicitDefEqProofs (maxSteps := 4000000) (disch := omega) only [go_sem, go_sem_proc, dr, Nat.min_def, ↓Nat.reduceBEq, ↓Nat.reduceEqDiff, ↓Nat.reduceLT, ↓Nat.reduceLeDiff, ↓Int.reduceEq, ↓Int.reduceLT, ↓Int.reduceLE, ↓reduceIte, hT, hS, hS2, sand15, sand1, hv, hm, hM, s1, s2, h11] <;> (first | done | ((repeat' split) <;> (change _ = true; kernel_rfl)))
theorem StamLater_spec {l : List Int} {v x y : Int} : dw E 5 [.sl 1 (ints .i64 l), .int .i64 v, .int .i64 x, .int .i64 y] [] = some (.bool true, []) := by
  have hT : dw E 12 [.sl 1 (ints .i64 l)] [] = some (.nr 23 4 ((txsL l).map Tx.pv), []) := Txns_spec
  have hI := txsL_is l
  have hlo : min (x % 16) (y % 16) ≤ max (x % 16) (y % 16) := by omega
  have hhi : max (x % 16) (y % 16) ≤ 15 := by omega
  have hmi : (if y % 16 < x % 16 then y % 16 else x % 16) = min (x % 16) (y % 16) := by split <;> omega
  have hma : (if y % 16 > x % 16 then y % 16 else x % 16) = max (x % 16) (y % 16) := by split <;> omega
  rcases (show v / 65536 % 2 = 0 ∨ v / 65536 % 2 = 1 by omega) with hv | hv
  · obtain ⟨p1, p2⟩ := later_plain (t := stampT v) (a := stampA v) (T := 0) (A := 0) (L := txsL l) hlo hhi
    exact later_walk hmi hma hT Stamp_spec Stamp_spec (.inl ⟨hv, rfl, rfl⟩) (Sees_spec hI) (Sees_spec hI) (outPV_form _) (outPV_form _) (When_spec hI) (When_spec hI) p1 p2
  · obtain ⟨p1, p2⟩ := later_plain (t := stampT v) (a := stampA v) (T := stampT (v / 256)) (A := stampA (v / 256)) (L := txsL l) hlo hhi
    exact later_walk hmi hma hT Stamp_spec Stamp_spec (.inr ⟨hv, rfl, rfl⟩) (Sees_spec hI) (Sees_spec hI) (outPV_form _) (outPV_form _) (When_spec hI) (When_spec hI) p1 p2
end Go.Proofs.Ytknapjbdgpjdjaa.D
