/- A schema of numbers is right. -/
import Derived.Test.YtgbeijemcojnpaaExpr8
namespace Go.Proofs.Ytgbeijemcojnpaa.D
open Go Go.Den
set_option linter.unusedSimpArgs false
set_option linter.unusedVariables false
set_option maxRecDepth 20000
set_option maxHeartbeats 8000000
def nmI : Nat → List UInt8
  | 0 => [107, 101, 121]
  | i + 1 => nameN i
theorem letters_nm : ∀ i, i < 6 → dw E 35 [.str (nmI i)] [] = some (.bool true, [])
  | 0, _ => dw_of (k := 60) (by kernel_rfl)
  | 1, _ => dw_of (k := 60) (by kernel_rfl)
  | 2, _ => dw_of (k := 60) (by kernel_rfl)
  | 3, _ => dw_of (k := 60) (by kernel_rfl)
  | 4, _ => dw_of (k := 60) (by kernel_rfl)
  | 5, _ => dw_of (k := 60) (by kernel_rfl)
  | i + 6, h => absurd h (by omega)
theorem nmI_inj (i k : Nat) (h1 : k < i) (h2 : i < 6) : nmI k ≠ nmI i := by
  have : ∀ i : Fin 6, ∀ k : Fin 6, k.1 < i.1 → nmI k.1 ≠ nmI i.1 := by decide
  exact this ⟨i, h2⟩ ⟨k, by omega⟩ h1
theorem schema_name {m : Int} {i : Nat} {c : Col} (h : (schemaN m)[i]? = some c) : c.name = nmI i := by
  cases i with
  | zero => rw [schemaN_zero] at h; cases h; rfl
  | succ i =>
    simp only [schemaN, colsN, List.getElem?_cons_succ, List.getElem?_map] at h
    rw [Option.map_eq_some_iff] at h
    obtain ⟨j, hj, rfl⟩ := h
    obtain ⟨_, hj⟩ := List.getElem?_eq_some_iff.1 hj
    simp at hj
    subst hj
    rfl
theorem RefOk_spec {m : Int} : dw E 13 [.agg [.sl 3 ((schemaN m).map Col.pv)]] [] = some (.bool true, []) := by
  obtain ⟨s, hS⟩ : ∃ s, schemaN m = s := ⟨_, rfl⟩
  have h6 := schemaN_length m
  have h1 := schemaN_pos m
  have hnm := fun i c => schema_name (m := m) (i := i) (c := c)
  have hkd := fun c => schemaN_kind (n := m) (c := c)
  have hz := schemaN_zero m
  rw [hS] at h6 h1 hz ⊢
  simp only [hS] at hnm hkd
  clear hS
  refine dw_in (fn := Try.f13) rfl body13 (by simp) ?_
  simp -implicitDefEqProofs (maxSteps := 4000000) (disch := omega) only [go_sem, go_sem_proc, dr, Nat.min_def, ↓Nat.reduceBEq, ↓Nat.reduceEqDiff, ↓Nat.reduceLT, ↓Nat.reduceLeDiff, ↓Int.reduceEq, ↓Int.reduceLT, ↓Int.reduceLE, ↓reduceIte]
  refine runs_for (fun i : Nat => (⟨[(1, .pb 1048577 0), (3, .int .i64 i)], [(1048577, some ⟨true, .box [.sl 3 (s.map Col.pv)]⟩)], 1⟩ : St)) s.length ?_ (fun i hi => ?_) ?_
  · simp -implicitDefEqProofs (maxSteps := 4000000) (disch := omega) only [go_sem, go_sem_proc, dr, Nat.min_def, ↓Nat.reduceBEq, ↓Nat.reduceEqDiff, ↓Nat.reduceLT, ↓Nat.reduceLeDiff, ↓Int.reduceEq, ↓Int.reduceLT, ↓Int.reduceLE, ↓reduceIte]
  · obtain ⟨c, hc, hcm, _⟩ := take_get hi
    have hL := letters_nm i (by omega)
    have hn := hnm i c hc
    rw [← hn] at hL
    have hk := hkd c hcm
    have hinner : ∀ k : Nat, k < i → ∃ ck, s[k]? = some ck ∧ (ck.name == c.name) = false := fun k hk => by
      obtain ⟨ck, hck, _, _⟩ := take_get (show k < s.length by omega)
      exact ⟨ck, hck, beq_false_of_ne (by rw [hn, hnm k ck hck]; exact nmI_inj i k hk (by omega))⟩
    have hi0 : (i = 0 ∧ c.kind = 1 ∧ c.null = false) ∨ (0 < i) := by
      rcases Nat.eq_zero_or_pos i with h | h
      · left
        subst h
        rw [hz] at hc
        cases hc
        exact ⟨rfl, rfl, rfl⟩
      · exact .inr h
    clear hnm hkd hz hn
    obtain ⟨nm, kd, nl⟩ := c
    dsimp only at hL hk hinner hi0
    rcases hi0 with ⟨rfl, rfl, rfl⟩ | hi0
    · clear hinner hk
      simp -implicitDefEqProofs (maxSteps := 4000000) (disch := omega) only [go_sem, go_sem_proc, dr, Nat.min_def, ↓Nat.reduceBEq, ↓Nat.reduceEqDiff, ↓Nat.reduceLT, ↓Nat.reduceLeDiff, ↓Int.reduceEq, ↓Int.reduceLT, ↓Int.reduceLE, ↓reduceIte, hc, hL]
      refine runs_for (fun k : Nat => (⟨[(1, .pb 1048577 0), (3, .int .i64 0), (4, .pb 1048580 0), (5, .int .i64 k)], [(1048577, some ⟨true, .box [.sl 3 (s.map Col.pv)]⟩), (1048580, some ⟨true, .box [.str nm, .int .i64 1, .bool false]⟩)], 1⟩ : St)) 0 ?_ (fun k hk => ?_) ?_
      · simp -implicitDefEqProofs (maxSteps := 4000000) (disch := omega) only [go_sem, go_sem_proc, dr, Nat.min_def, ↓Nat.reduceBEq, ↓Nat.reduceEqDiff, ↓Nat.reduceLT, ↓Nat.reduceLeDiff, ↓Int.reduceEq, ↓Int.reduceLT, ↓Int.reduceLE, ↓reduceIte]
      · exact absurd hk (Nat.not_lt_zero k)
      · simp -implicitDefEqProofs (maxSteps := 4000000) (disch := omega) only [go_sem, go_sem_proc, dr, Nat.min_def, ↓Nat.reduceBEq, ↓Nat.reduceEqDiff, ↓Nat.reduceLT, ↓Nat.reduceLeDiff, ↓Int.reduceEq, ↓Int.reduceLT, ↓Int.reduceLE, ↓reduceIte]
    · rcases hk with rfl | rfl
      · skip
        simp -implicitDefEqProofs (maxSteps := 4000000) (disch := omega) only [go_sem, go_sem_proc, dr, Nat.min_def, ↓Nat.reduceBEq, ↓Nat.reduceEqDiff, ↓Nat.reduceLT, ↓Nat.reduceLeDiff, ↓Int.reduceEq, ↓Int.reduceLT, ↓Int.reduceLE, ↓reduceIte, hc, hL]
        refine runs_for (fun k : Nat => (⟨[(1, .pb 1048577 0), (3, .int .i64 i), (4, .pb 1048580 0), (5, .int .i64 k)], [(1048577, some ⟨true, .box [.sl 3 (s.map Col.pv)]⟩), (1048580, some ⟨true, .box [.str nm, .int .i64 1, .bool nl]⟩)], 1⟩ : St)) i ?_ (fun k hk => ?_) ?_
        · simp -implicitDefEqProofs (maxSteps := 4000000) (disch := omega) only [go_sem, go_sem_proc, dr, Nat.min_def, ↓Nat.reduceBEq, ↓Nat.reduceEqDiff, ↓Nat.reduceLT, ↓Nat.reduceLeDiff, ↓Int.reduceEq, ↓Int.reduceLT, ↓Int.reduceLE, ↓reduceIte]
        · obtain ⟨ck, hck, hne⟩ := hinner k hk
          have hki : (k : Int) < i := by omega
          clear hL hc hinner
          simp -implicitDefEqProofs (maxSteps := 4000000) (disch := omega) only [go_sem, go_sem_proc, dr, Nat.min_def, ↓Nat.reduceBEq, ↓Nat.reduceEqDiff, ↓Nat.reduceLT, ↓Nat.reduceLeDiff, ↓Int.reduceEq, ↓Int.reduceLT, ↓Int.reduceLE, ↓reduceIte, hck, hne, decide_false]
          first | done | ((repeat' split) <;> (change _ = true; kernel_rfl))
        · simp -implicitDefEqProofs (maxSteps := 4000000) (disch := omega) only [go_sem, go_sem_proc, dr, Nat.min_def, ↓Nat.reduceBEq, ↓Nat.reduceEqDiff, ↓Nat.reduceLT, ↓Nat.reduceLeDiff, ↓Int.reduceEq, ↓Int.reduceLT, ↓Int.reduceLE, ↓reduceIte]
      · skip
        simp -implicitDefEqProofs (maxSteps := 4000000) (disch := omega) only [go_sem, go_sem_proc, dr, Nat.min_def, ↓Nat.reduceBEq, ↓Nat.reduceEqDiff, ↓Nat.reduceLT, ↓Nat.reduceLeDiff, ↓Int.reduceEq, ↓Int.reduceLT, ↓Int.reduceLE, ↓reduceIte, hc, hL]
        refine runs_for (fun k : Nat => (⟨[(1, .pb 1048577 0), (3, .int .i64 i), (4, .pb 1048580 0), (5, .int .i64 k)], [(1048577, some ⟨true, .box [.sl 3 (s.map Col.pv)]⟩), (1048580, some ⟨true, .box [.str nm, .int .i64 2, .bool nl]⟩)], 1⟩ : St)) i ?_ (fun k hk => ?_) ?_
        · simp -implicitDefEqProofs (maxSteps := 4000000) (disch := omega) only [go_sem, go_sem_proc, dr, Nat.min_def, ↓Nat.reduceBEq, ↓Nat.reduceEqDiff, ↓Nat.reduceLT, ↓Nat.reduceLeDiff, ↓Int.reduceEq, ↓Int.reduceLT, ↓Int.reduceLE, ↓reduceIte]
        · obtain ⟨ck, hck, hne⟩ := hinner k hk
          have hki : (k : Int) < i := by omega
          clear hL hc hinner
          simp -implicitDefEqProofs (maxSteps := 4000000) (disch := omega) only [go_sem, go_sem_proc, dr, Nat.min_def, ↓Nat.reduceBEq, ↓Nat.reduceEqDiff, ↓Nat.reduceLT, ↓Nat.reduceLeDiff, ↓Int.reduceEq, ↓Int.reduceLT, ↓Int.reduceLE, ↓reduceIte, hck, hne, decide_false]
          first | done | ((repeat' split) <;> (change _ = true; kernel_rfl))
        · simp -implicitDefEqProofs (maxSteps := 4000000) (disch := omega) only [go_sem, go_sem_proc, dr, Nat.min_def, ↓Nat.reduceBEq, ↓Nat.reduceEqDiff, ↓Nat.reduceLT, ↓Nat.reduceLeDiff, ↓Int.reduceEq, ↓Int.reduceLT, ↓Int.reduceLE, ↓reduceIte]
  · simp -implicitDefEqProofs (maxSteps := 4000000) (disch := omega) only [go_sem, go_sem_proc, dr, Nat.min_def, ↓Nat.reduceBEq, ↓Nat.reduceEqDiff, ↓Nat.reduceLT, ↓Nat.reduceLeDiff, ↓Int.reduceEq, ↓Int.reduceLT, ↓Int.reduceLE, ↓reduceIte]
    first | done | ((repeat' split) <;> (change _ = true; kernel_rfl))
end Go.Proofs.Ytgbeijemcojnpaa.D
