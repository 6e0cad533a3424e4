/- Rows of numbers, of unlike keys; ZoneSafe: what the law comes to. -/
import Derived.Test.YtgocfiehbgoacaaZone4
namespace Go.Proofs.Ytgocfiehbgoacaa.D
open Go Go.Den
set_option linter.unusedSimpArgs false
set_option linter.unusedVariables false
set_option maxRecDepth 20000
set_option maxHeartbeats 8000000
def rowZ (s : List Col) (i : Nat) (n : Int) : List Val := ⟨false, 1, i * 3 + n % 2, none⟩ :: (rowN s n).tail
def rowsZ (s : List Col) (l : List Int) : List (List Val) := (l.take 40).mapIdx (rowZ s)
theorem rowN_cons {s : List Col} (hs : 1 ≤ s.length) (x : Int) : rowN s x = ⟨false, 1, x % 16, none⟩ :: (rowN s x).tail := by
  cases s with
  | nil => simp at hs
  | cons c r => rw [rowN, List.mapIdx_cons]; rfl
theorem Rows_spec {s : List Col} {l : List Int} (hs : 1 ≤ s.length ∧ s.length ≤ 20) : dw E 15 [.agg [.sl 3 (s.map Col.pv)], .sl 1 (ints .i64 l)] [] = some (.nr 45 1 (rowsPV (rowsZ s l)), []) := by
  refine dw_in (fn := Try.f15) rfl body15 (by simp) ?_
  simp -implicitDefEqProofs (maxSteps := 4000000) (disch := omega) only [go_sem, go_sem_proc, dr, Nat.min_def, ↓Nat.reduceBEq, ↓Nat.reduceEqDiff, ↓Nat.reduceLT, ↓Nat.reduceLeDiff, ↓Int.reduceEq, ↓Int.reduceLT, ↓Int.reduceLE, ↓reduceIte]
  have hlen : (rowsZ s l).length = min 40 l.length := by simp [rowsZ]
  refine runs_any (fun i : Nat => (⟨[(1, .sl 1 (ints .i64 l)), (2, .pb 1048578 0), (5, .h 2097472), (6, .int .i64 i)], [(1048578, some ⟨true, .box [.sl 3 (s.map Col.pv)]⟩), (2097472, some ⟨true, .row 45 1 (rowsPV ((rowsZ s l).take i))⟩)], 1⟩ : St)) (fun i => 40 - i) 0
    (fun i => i ≤ l.length ∧ i ≤ 40) ⟨by simp, by simp⟩ ?_ ?_
  · simp -implicitDefEqProofs (maxSteps := 4000000) (disch := omega) only [go_sem, go_sem_proc, dr, Nat.min_def, ↓Nat.reduceBEq, ↓Nat.reduceEqDiff, ↓Nat.reduceLT, ↓Nat.reduceLeDiff, ↓Int.reduceEq, ↓Int.reduceLT, ↓Int.reduceLE, ↓reduceIte, rowsPV]
  · rintro i ⟨hi1, hi2⟩
    by_cases hlt : i < l.length ∧ i < 40
    · obtain ⟨h1, h2⟩ := hlt
      obtain ⟨x, hx, _, _⟩ := take_get h1
      have hR := Row_spec (s := s) (n := x) hs.2
      rw [rowN_cons hs.1 x, List.map_cons] at hR
      have hrow : (rowsZ s l)[i]? = some (rowZ s i x) := by simp [rowsZ, List.getElem?_take, h2, hx]
      have ht : (rowsZ s l).take (i + 1) = (rowsZ s l).take i ++ [rowZ s i x] := by
        obtain ⟨g1, g2⟩ := List.getElem?_eq_some_iff.1 hrow
        rw [List.take_succ_eq_append_getElem g1, g2]
      have hp : rowsPV ((rowsZ s l).take (i + 1)) = rowsPV ((rowsZ s l).take i) ++ [[.sl 4 ([.bool false, .int .i64 1, .int .i64 (i * 3 + x % 2), .nils] :: (rowN s x).tail.map Val.pv)]] := by
        rw [ht, rowsPV, List.map_append]; rfl
      have hpl : (rowsPV ((rowsZ s l).take i)).length ≤ 40 := by simp [rowsPV]; omega
      simp -implicitDefEqProofs (maxSteps := 4000000) (disch := omega) only [go_sem, go_sem_proc, dr, Nat.min_def, ↓Nat.reduceBEq, ↓Nat.reduceEqDiff, ↓Nat.reduceLT, ↓Nat.reduceLeDiff, ↓Int.reduceEq, ↓Int.reduceLT, ↓Int.reduceLE, ↓reduceIte, hx, hR, hp]
      exact ⟨by ((repeat' split) <;> (change _ = true; kernel_rfl)), i + 1, by rw [hp]; rfl, ⟨by omega, by omega⟩, by omega⟩
    · have hti : (rowsZ s l).take i = rowsZ s l := List.take_of_length_le (by omega)
      by_cases h3 : i < l.length
      · have h4 : i = 40 := by omega
        subst h4
        clear hlt
        simp -implicitDefEqProofs (maxSteps := 4000000) (disch := omega) only [go_sem, go_sem_proc, dr, Nat.min_def, ↓Nat.reduceBEq, ↓Nat.reduceEqDiff, ↓Nat.reduceLT, ↓Nat.reduceLeDiff, ↓Int.reduceEq, ↓Int.reduceLT, ↓Int.reduceLE, ↓reduceIte, hti]
      · have h4 : l.length ≤ i := by omega
        clear hlt h3
        simp -implicitDefEqProofs (maxSteps := 4000000) (disch := omega) only [go_sem, go_sem_proc, dr, Nat.min_def, ↓Nat.reduceBEq, ↓Nat.reduceEqDiff, ↓Nat.reduceLT, ↓Nat.reduceLeDiff, ↓Int.reduceEq, ↓Int.reduceLT, ↓Int.reduceLE, ↓reduceIte, hti]
theorem rowsZ_mem {s : List Col} {l : List Int} {r : List Val} (h : r ∈ rowsZ s l) : ∃ i n, r = rowZ s i n := by
  obtain ⟨i, hi, rfl⟩ := List.getElem_of_mem h
  exact ⟨i, l[i]'(by simp [rowsZ] at hi; omega), by simp [rowsZ]⟩
theorem rowZ_len {s : List Col} (hs : 1 ≤ s.length) (i : Nat) (n : Int) : (rowZ s i n).length = s.length := by
  simp [rowZ, rowN]; omega
theorem rowZ_succ {s : List Col} (i : Nat) (n : Int) (j : Nat) : (rowZ s i n)[j + 1]? = (rowN s n)[j + 1]? := by
  simp [rowZ]
theorem rowZ_R1 (s : List Col) (i : Nat) (n : Int) : R1 (rowZ s i n) := fun v hv => by
  rcases List.mem_cons.1 hv with rfl | hv
  · simp [bz]
  · exact rowN_R1 s n v (List.mem_of_mem_tail hv)
theorem rowsZ_len (s : List Col) (l : List Int) : (rowsZ s l).length ≤ 40 := by simp [rowsZ]; omega
theorem rowsZ_RR {n : Int} (l : List Int) : RR (rowsZ (schemaN n) l) := by
  refine ⟨by have := rowsZ_len (schemaN n) l; omega, fun r hr => ?_⟩
  obtain ⟨i, x, rfl⟩ := rowsZ_mem hr
  refine ⟨?_, rowZ_R1 _ _ _⟩
  rw [rowZ_len (schemaN_pos n)]
  have := schemaN_length n
  omega
theorem rowsZ_KR {n : Int} (l : List Int) : KR (schemaN n) (rowsZ (schemaN n) l) := fun r hr => by
  obtain ⟨i, x, rfl⟩ := rowsZ_mem hr
  refine ⟨rowZ_len (schemaN_pos n) i x, fun j c v hc hv => ?_⟩
  cases j with
  | zero =>
    rw [schemaN_zero] at hc
    injection hc with hc
    subst hc
    simp [rowZ] at hv
    subst hv
    rfl
  | succ j =>
    rw [rowZ_succ, rowN_get hc] at hv
    injection hv with hv
    subst hv
    exact (holds_isV (rowE_holds hc)).2
theorem awake9 : dw E 13 [] [] = some (.bool true, []) := dw_of (k := 300) (by kernel_rfl)
end Go.Proofs.Ytgocfiehbgoacaa.D
