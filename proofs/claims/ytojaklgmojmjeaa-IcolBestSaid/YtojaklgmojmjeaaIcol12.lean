/- Columns of the farthest numbers are read as they were told. -/
import Derived.Test.YtojaklgmojmjeaaIcol11
namespace Go.Proofs.Ytojaklgmojmjeaa.D
open Go Go.Den
set_option linter.unusedSimpArgs false
set_option linter.unusedVariables false
set_option maxRecDepth 20000
set_option maxHeartbeats 8000000
def far6 (q : Int) : Int := if q = 0 then -9223372036854775808 else if q = 1 then 9223372036854775807 else if q = 2 then 0 else if q = 3 then -1 else if q = 4 then 1 else -9223372036854775807
def farL (l : List Int) (m : Nat) : List Int := (List.range m).map fun i => far6 (l.getD i 0 % 256 % 6)
theorem farL_succ (l : List Int) {m : Nat} {n : Int} (h : l[m]? = some n) : farL l (m + 1) = farL l m ++ [far6 (n % 256 % 6)] := by
  simp [farL, List.range_succ, h]
theorem farL_len (l : List Int) (m : Nat) : (farL l m).length = m := by simp [farL]
theorem farL_r (l : List Int) (m : Nat) : Ri64 (farL l m) := by
  intro z hz
  obtain ⟨i, hi, rfl⟩ := List.mem_map.1 hz
  unfold far6
  repeat' split
  all_goals omega
theorem IcolFar_spec {l : List Int} (hr : Ri64 l) : dw E 5 [.sl 1 (ints .i64 l)] [] = some (.bool true, []) := by
  obtain ⟨m, hm1, hm2, hm3⟩ : ∃ m : Nat, m ≤ 40 ∧ m ≤ l.length ∧ (m = l.length ∨ m = 40) := ⟨min l.length 40, by omega, by omega, by omega⟩
  refine dw_in (fn := Try.f5) rfl body5 (by simp) ?_
  simp -implicitDefEqProofs (maxSteps := 4000000) (disch := omega) only [go_sem, go_sem_proc, dr, Nat.min_def, ↓Nat.reduceBEq, ↓Nat.reduceEqDiff, ↓Nat.reduceLT, ↓Nat.reduceLeDiff, ↓Int.reduceEq, ↓Int.reduceLT, ↓Int.reduceLE, ↓reduceIte]
  refine runs_for (fun i : Nat => (⟨[(0, .sl 1 (ints .i64 l)), (3, .h 2097344), (4, .int .i64 i)], [(2097344, some ⟨true, .row 2 1 (ints .i64 (farL l i))⟩)], 1⟩ : St)) m ?_ ?_ ?_
  · simp -implicitDefEqProofs (maxSteps := 4000000) (disch := omega) only [go_sem, go_sem_proc, dr, Nat.min_def, ↓Nat.reduceBEq, ↓Nat.reduceEqDiff, ↓Nat.reduceLT, ↓Nat.reduceLeDiff, ↓Int.reduceEq, ↓Int.reduceLT, ↓Int.reduceLE, ↓reduceIte]
    rfl
  · intro i hi
    obtain ⟨x, hx, hm, ht⟩ := take_get (l := l) (i := i) (by omega)
    rw [farL_succ l hx]
    have hxr := hr x hm
    have hlen := farL_len l i
    generalize farL l i = out at *
    have h1 : i < l.length := by omega
    have h2 : i < 40 := by omega
    have h3 : out.length ≤ 40 := by omega
    clear ht hm hr hi hlen hm1 hm2 hm3
    obtain ⟨q, hq, hq0, hq6⟩ : ∃ q : Int, x % 256 % 6 = q ∧ 0 ≤ q ∧ q < 6 := ⟨_, rfl, by omega, by omega⟩
    have h6 : q = 0 ∨ q = 1 ∨ q = 2 ∨ q = 3 ∨ q = 4 ∨ q = 5 := by omega
    rw [hq]
    rcases h6 with rfl | rfl | rfl | rfl | rfl | rfl
    all_goals simp only [far6, reduceCtorEq, ↓reduceIte, Int.reduceEq]
    all_goals simp -implicitDefEqProofs (maxSteps := 4000000) (disch := omega) only [go_sem, go_sem_proc, dr, Nat.min_def, ↓Nat.reduceBEq, ↓Nat.reduceEqDiff, ↓Nat.reduceLT, ↓Nat.reduceLeDiff, ↓Int.reduceEq, ↓Int.reduceLT, ↓Int.reduceLE, ↓reduceIte, hx, hq]
  · have hx := farL_r l m
    have hxl : (farL l m).length ≤ 60 := by rw [farL_len]; omega
    generalize farL l m = x at *
    have key : ∀ P : Prop, P → P := fun _ h => h
    obtain ⟨L, hL⟩ : ∃ L : Int, (x.length : Int) = L := ⟨_, rfl⟩
    have hL0 : 0 ≤ L ∧ L ≤ 60 := by omega
    have hR4 : ∀ k' : Int, 1 ≤ k' → k' ≤ 4 → ∃ c X, IsO X x ∧ dw E 12 [.int .i64 k', .sl 1 (ints .i64 x)] [] = some (.tup [.nr 5 1 (ints .u8 c), .bool true], []) ∧
        dw E 8 [.sl 1 (ints .u8 c), .int .i64 L] [] = some (.tup [X, .bool true], []) := by
      intro k' h1 h4
      obtain ⟨b, hb⟩ := tell_some (l := x) (by omega) h1 h4
      obtain ⟨X', hX', hD'⟩ := round_trip hx (by omega) hb
      rw [hL] at hD'
      have hT := Tell_spec (k := k') (.inl rfl) hx (by omega)
      unfold tellR at hT
      rw [hb] at hT
      exact ⟨b, X', hX', hT, hD'⟩
    have hS := fun {Y : PV} (hY : IsI Y x) => SameInts_spec (.inl rfl) hY (a := x) (by omega) (by omega)
    simp only [decide_true] at hS
    have hSX : ∀ X : PV, IsO X x → (X = .nr 2 1 (ints .i64 x) ∧ dw E 13 [.sl 1 (ints .i64 x), .sl 1 (ints .i64 x)] [] = some (.bool true, [])) ∨ (X = .nils ∧ dw E 13 [.sl 1 (ints .i64 x), .nils] [] = some (.bool true, [])) := by
      rintro X (rfl | ⟨rfl, h0⟩)
      · exact .inl ⟨rfl, hS (.inl rfl)⟩
      · exact .inr ⟨rfl, hS (.inr ⟨rfl, h0⟩)⟩
    have hA := awake4
    clear hS
    have h3 : m = l.length ∨ (m = 40 ∧ 40 < l.length) := by omega
    clear hm3 hm1 hm2
    rcases h3 with e | ⟨rfl, e⟩ <;> simp -implicitDefEqProofs (maxSteps := 4000000) (disch := omega) only [go_sem, go_sem_proc, dr, Nat.min_def, ↓Nat.reduceBEq, ↓Nat.reduceEqDiff, ↓Nat.reduceLT, ↓Nat.reduceLeDiff, ↓Int.reduceEq, ↓Int.reduceLT, ↓Int.reduceLE, ↓reduceIte]
    all_goals refine runs_for (fun i : Nat => (⟨[(3, .h 2097344), (33, .h 2099264), (34, .int .i64 4), (35, .int .i64 i)], [(2097344, some ⟨true, .row 2 1 (ints .i64 x)⟩), (2099264, some ⟨true, .row 3 1 (ints .i64 [1, 2, 3, 4])⟩)], 1⟩ : St)) 4 ?_ ?_ ?_
    case inl.refine_1 | inr.refine_1 => simp -implicitDefEqProofs (maxSteps := 4000000) (disch := omega) only [go_sem, go_sem_proc, dr, Nat.min_def, ↓Nat.reduceBEq, ↓Nat.reduceEqDiff, ↓Nat.reduceLT, ↓Nat.reduceLeDiff, ↓Int.reduceEq, ↓Int.reduceLT, ↓Int.reduceLE, ↓reduceIte]
    case inl.refine_2 | inr.refine_2 =>
      intro i hi
      obtain rfl | rfl | rfl | rfl : i = 0 ∨ i = 1 ∨ i = 2 ∨ i = 3 := by omega
      · obtain ⟨c, X, hX, hT, hD⟩ := hR4 1 (by decide) (by decide)
        clear hR4
        rcases hSX X hX with ⟨rfl, hSY⟩ | ⟨rfl, hSY⟩ <;> simp -implicitDefEqProofs (maxSteps := 4000000) (disch := omega) only [go_sem, go_sem_proc, dr, Nat.min_def, ↓Nat.reduceBEq, ↓Nat.reduceEqDiff, ↓Nat.reduceLT, ↓Nat.reduceLeDiff, ↓Int.reduceEq, ↓Int.reduceLT, ↓Int.reduceLE, ↓reduceIte, hT, hD, hSY, hL]
      · obtain ⟨c, X, hX, hT, hD⟩ := hR4 2 (by decide) (by decide)
        clear hR4
        rcases hSX X hX with ⟨rfl, hSY⟩ | ⟨rfl, hSY⟩ <;> simp -implicitDefEqProofs (maxSteps := 4000000) (disch := omega) only [go_sem, go_sem_proc, dr, Nat.min_def, ↓Nat.reduceBEq, ↓Nat.reduceEqDiff, ↓Nat.reduceLT, ↓Nat.reduceLeDiff, ↓Int.reduceEq, ↓Int.reduceLT, ↓Int.reduceLE, ↓reduceIte, hT, hD, hSY, hL]
      · obtain ⟨c, X, hX, hT, hD⟩ := hR4 3 (by decide) (by decide)
        clear hR4
        rcases hSX X hX with ⟨rfl, hSY⟩ | ⟨rfl, hSY⟩ <;> simp -implicitDefEqProofs (maxSteps := 4000000) (disch := omega) only [go_sem, go_sem_proc, dr, Nat.min_def, ↓Nat.reduceBEq, ↓Nat.reduceEqDiff, ↓Nat.reduceLT, ↓Nat.reduceLeDiff, ↓Int.reduceEq, ↓Int.reduceLT, ↓Int.reduceLE, ↓reduceIte, hT, hD, hSY, hL]
      · obtain ⟨c, X, hX, hT, hD⟩ := hR4 4 (by decide) (by decide)
        clear hR4
        rcases hSX X hX with ⟨rfl, hSY⟩ | ⟨rfl, hSY⟩ <;> simp -implicitDefEqProofs (maxSteps := 4000000) (disch := omega) only [go_sem, go_sem_proc, dr, Nat.min_def, ↓Nat.reduceBEq, ↓Nat.reduceEqDiff, ↓Nat.reduceLT, ↓Nat.reduceLeDiff, ↓Int.reduceEq, ↓Int.reduceLT, ↓Int.reduceLE, ↓reduceIte, hT, hD, hSY, hL]
    case inl.refine_3 | inr.refine_3 =>
      clear hR4 hSX
      simp -implicitDefEqProofs (maxSteps := 4000000) (disch := omega) only [go_sem, go_sem_proc, dr, Nat.min_def, ↓Nat.reduceBEq, ↓Nat.reduceEqDiff, ↓Nat.reduceLT, ↓Nat.reduceLeDiff, ↓Int.reduceEq, ↓Int.reduceLT, ↓Int.reduceLE, ↓reduceIte, hA]
end Go.Proofs.Ytojaklgmojmjeaa.D
