/- Values and columns: what the functions come to. -/
import Derived.Test.YtjhdickfkpcccaaDenT2
namespace Go.Proofs.Ytjhdickfkpcccaa.D
open Go Go.Den
set_option linter.unusedSimpArgs false
set_option linter.unusedVariables false
set_option maxRecDepth 20000
set_option maxHeartbeats 4000000
theorem isNaN_spec {a : Int} : dw E 36 [.int .i64 a] [] = some (.bool false, []) := by
  refine dw_intro (fn := Try.f36) rfl rfl (by decide) ?_
  simp -implicitDefEqProofs (maxSteps := 4000000) only [go_sem, go_sem_proc, ↓reduceIte, Nat.min_def]
theorem isNaN64_spec {a : Int} : dw E 37 [.int .i64 a] [] = some (.bool false, []) := by
  refine dw_intro (fn := Try.f37) rfl rfl (by decide) ?_
  simp -implicitDefEqProofs (maxSteps := 4000000) only [go_sem, go_sem_proc, ↓reduceIte, Nat.min_def]
theorem cmp_spec {a b : Int} : dw E 24 [.int .i64 a, .int .i64 b] [] = some (.int .i64 (cmpI a b), []) := by
  refine dw_intro (fn := Try.f24) rfl rfl (by decide) ?_
  by_cases h1 : a < b
  · simp -implicitDefEqProofs (maxSteps := 4000000) only [go_sem, go_sem_proc, ↓reduceIte, Nat.min_def, isNaN_spec, cmpI, h1]
  · by_cases h2 : b < a
    · simp -implicitDefEqProofs (maxSteps := 4000000) only [go_sem, go_sem_proc, ↓reduceIte, Nat.min_def, isNaN_spec, cmpI, h1, h2]
    · simp -implicitDefEqProofs (maxSteps := 4000000) only [go_sem, go_sem_proc, ↓reduceIte, Nat.min_def, isNaN_spec, cmpI, h1, h2]
theorem cmp64_spec {a b : Int} : dw E 26 [.int .i64 a, .int .i64 b] [] = some (.int .i64 (cmpI a b), []) := by
  refine dw_intro (fn := Try.f26) rfl rfl (by decide) ?_
  by_cases h1 : a < b
  · simp -implicitDefEqProofs (maxSteps := 4000000) only [go_sem, go_sem_proc, ↓reduceIte, Nat.min_def, isNaN64_spec, cmpI, h1]
  · by_cases h2 : b < a
    · simp -implicitDefEqProofs (maxSteps := 4000000) only [go_sem, go_sem_proc, ↓reduceIte, Nat.min_def, isNaN64_spec, cmpI, h1, h2]
    · simp -implicitDefEqProofs (maxSteps := 4000000) only [go_sem, go_sem_proc, ↓reduceIte, Nat.min_def, isNaN64_spec, cmpI, h1, h2]
theorem rank_spec {nl : Bool} {k i : Int} {o : Option (List Int)} : dw E 25 [.agg [.bool nl, .int .i64 k, .int .i64 i, bl o]] [] = some (.int .i64 (rankV ⟨nl, k, i, o⟩), []) := by
  refine dw_intro (fn := Try.f25) rfl rfl (by decide) ?_
  cases nl
  · simp -implicitDefEqProofs (maxSteps := 4000000) only [go_sem, go_sem_proc, ↓reduceIte, Nat.min_def, rankV]
  · simp -implicitDefEqProofs (maxSteps := 4000000) only [go_sem, go_sem_proc, ↓reduceIte, Nat.min_def, rankV]
theorem compareF_bl {o q : Option (List Int)} : compareF [bl o, bl q] = some (.int .i64 (Lib.compareBytes ((bz o).map toU8) ((bz q).map toU8))) := by
  simp only [compareF, bytesP_bl]
theorem Compare_spec {nl ml : Bool} {k i l j : Int} {o q : Option (List Int)} : dw E 17 [.agg [.bool nl, .int .i64 k, .int .i64 i, bl o], .agg [.bool ml, .int .i64 l, .int .i64 j, bl q]] [] = some (.int .i64 (cmpV ⟨nl, k, i, o⟩ ⟨ml, l, j, q⟩), []) := by
  refine dw_intro (fn := Try.f17) rfl rfl (by decide) ?_
  have c00 : cmpI 0 0 = 0 := rfl
  have c01 : cmpI 0 1 = -1 := rfl
  have c10 : cmpI 1 0 = 1 := rfl
  have c11 : cmpI 1 1 = 0 := rfl
  cases nl
  · cases ml
    · by_cases h1 : k = 1
      · have e1 := eq_true h1
        simp -implicitDefEqProofs (maxSteps := 4000000) only [go_sem, go_sem_proc, ↓reduceIte, Nat.min_def, rank_spec, cmp_spec, cmp64_spec, rankV, c11, cmpV, e1]
        change _ = true
        kernel_rfl
      · by_cases h2 : k = 2
        · have e2 := eq_true h2
          simp -implicitDefEqProofs (maxSteps := 4000000) only [go_sem, go_sem_proc, ↓reduceIte, Nat.min_def, rank_spec, cmp_spec, cmp64_spec, compareF_bl, rankV, c11, cmpV, Val.b, h1, e2]
          change _ = true
          kernel_rfl
        · simp -implicitDefEqProofs (maxSteps := 4000000) only [go_sem, go_sem_proc, ↓reduceIte, Nat.min_def, rank_spec, cmp_spec, cmp64_spec, rankV, c11, cmpV, h1, h2]
          change _ = true
          kernel_rfl
    · simp -implicitDefEqProofs (maxSteps := 4000000) only [go_sem, go_sem_proc, ↓reduceIte, Nat.min_def, rank_spec, cmp_spec, rankV, c10, cmpV]
      change _ = true
      kernel_rfl
  · cases ml
    · simp -implicitDefEqProofs (maxSteps := 4000000) only [go_sem, go_sem_proc, ↓reduceIte, Nat.min_def, rank_spec, cmp_spec, rankV, c01, cmpV]
      change _ = true
      kernel_rfl
    · simp -implicitDefEqProofs (maxSteps := 4000000) only [go_sem, go_sem_proc, ↓reduceIte, Nat.min_def, rank_spec, cmp_spec, rankV, c00, cmpV]
      change _ = true
      kernel_rfl
end Go.Proofs.Ytjhdickfkpcccaa.D
