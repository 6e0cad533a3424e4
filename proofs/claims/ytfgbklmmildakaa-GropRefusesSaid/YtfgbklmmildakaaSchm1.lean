/- Values and columns: what the functions come to. -/
import Derived.Test.YtfgbklmmildakaaDenT2
namespace Go.Proofs.Ytfgbklmmildakaa.D
open Go Go.Den
set_option linter.unusedSimpArgs false
set_option linter.unusedVariables false
set_option maxRecDepth 20000
set_option maxHeartbeats 4000000
theorem isNaN_spec {a : Int} : dw E 50 [.int .i64 a] [] = some (.bool false, []) := by
  refine dw_intro (fn := Try.f50) rfl rfl (by decide) ?_
  simp -implicitDefEqProofs (maxSteps := 4000000) only [go_sem, go_sem_proc, ↓reduceIte, Nat.min_def]
theorem isNaN64_spec {a : Int} : dw E 51 [.int .i64 a] [] = some (.bool false, []) := by
  refine dw_intro (fn := Try.f51) rfl rfl (by decide) ?_
  simp -implicitDefEqProofs (maxSteps := 4000000) only [go_sem, go_sem_proc, ↓reduceIte, Nat.min_def]
theorem cmp_spec {a b : Int} : dw E 46 [.int .i64 a, .int .i64 b] [] = some (.int .i64 (cmpI a b), []) := by
  refine dw_intro (fn := Try.f46) rfl rfl (by decide) ?_
  by_cases h1 : a < b
  · simp -implicitDefEqProofs (maxSteps := 4000000) only [go_sem, go_sem_proc, ↓reduceIte, Nat.min_def, isNaN_spec, cmpI, h1]
  · by_cases h2 : b < a
    · simp -implicitDefEqProofs (maxSteps := 4000000) only [go_sem, go_sem_proc, ↓reduceIte, Nat.min_def, isNaN_spec, cmpI, h1, h2]
    · simp -implicitDefEqProofs (maxSteps := 4000000) only [go_sem, go_sem_proc, ↓reduceIte, Nat.min_def, isNaN_spec, cmpI, h1, h2]
theorem cmp64_spec {a b : Int} : dw E 48 [.int .i64 a, .int .i64 b] [] = some (.int .i64 (cmpI a b), []) := by
  refine dw_intro (fn := Try.f48) rfl rfl (by decide) ?_
  by_cases h1 : a < b
  · simp -implicitDefEqProofs (maxSteps := 4000000) only [go_sem, go_sem_proc, ↓reduceIte, Nat.min_def, isNaN64_spec, cmpI, h1]
  · by_cases h2 : b < a
    · simp -implicitDefEqProofs (maxSteps := 4000000) only [go_sem, go_sem_proc, ↓reduceIte, Nat.min_def, isNaN64_spec, cmpI, h1, h2]
    · simp -implicitDefEqProofs (maxSteps := 4000000) only [go_sem, go_sem_proc, ↓reduceIte, Nat.min_def, isNaN64_spec, cmpI, h1, h2]
theorem rank_spec {nl : Bool} {k i : Int} {o : Option (List Int)} : dw E 47 [.agg [.bool nl, .int .i64 k, .int .i64 i, bl o]] [] = some (.int .i64 (rankV ⟨nl, k, i, o⟩), []) := by
  refine dw_intro (fn := Try.f47) rfl rfl (by decide) ?_
  cases nl
  · simp -implicitDefEqProofs (maxSteps := 4000000) only [go_sem, go_sem_proc, ↓reduceIte, Nat.min_def, rankV]
  · simp -implicitDefEqProofs (maxSteps := 4000000) only [go_sem, go_sem_proc, ↓reduceIte, Nat.min_def, rankV]
theorem compareF_bl {o q : Option (List Int)} : compareF [bl o, bl q] = some (.int .i64 (Lib.compareBytes ((bz o).map toU8) ((bz q).map toU8))) := by
  simp only [compareF, bytesP_bl]
theorem Compare_spec {nl ml : Bool} {k i l j : Int} {o q : Option (List Int)} : dw E 44 [.agg [.bool nl, .int .i64 k, .int .i64 i, bl o], .agg [.bool ml, .int .i64 l, .int .i64 j, bl q]] [] = some (.int .i64 (cmpV ⟨nl, k, i, o⟩ ⟨ml, l, j, q⟩), []) := by
  refine dw_intro (fn := Try.f44) rfl rfl (by decide) ?_
  have c00 : cmpI 0 0 = 0 := rfl
  have c01 : cmpI 0 1 = -1 := rfl
  have c10 : cmpI 1 0 = 1 := rfl
  have c11 : cmpI 1 1 = 0 := rfl
  cases nl
  · cases ml
    · by_cases h1 : k = 1
      · have e1 := eq_true h1
        simp -implicitDefEqProofs (maxSteps := 4000000) only [go_sem, go_sem_proc, ↓reduceIte, Nat.min_def, rank_spec, cmp_spec, cmp64_spec, rankV, c11, cmpV, e1]
        change _ = true
        kernel_rfl
      · by_cases h2 : k = 2
        · have e2 := eq_true h2
          simp -implicitDefEqProofs (maxSteps := 4000000) only [go_sem, go_sem_proc, ↓reduceIte, Nat.min_def, rank_spec, cmp_spec, cmp64_spec, compareF_bl, rankV, c11, cmpV, Val.b, h1, e2]
          change _ = true
          kernel_rfl
        · simp -implicitDefEqProofs (maxSteps := 4000000) only [go_sem, go_sem_proc, ↓reduceIte, Nat.min_def, rank_spec, cmp_spec, cmp64_spec, rankV, c11, cmpV, h1, h2]
          change _ = true
          kernel_rfl
    · simp -implicitDefEqProofs (maxSteps := 4000000) only [go_sem, go_sem_proc, ↓reduceIte, Nat.min_def, rank_spec, cmp_spec, rankV, c10, cmpV]
      change _ = true
      kernel_rfl
  · cases ml
    · simp -implicitDefEqProofs (maxSteps := 4000000) only [go_sem, go_sem_proc, ↓reduceIte, Nat.min_def, rank_spec, cmp_spec, rankV, c01, cmpV]
      change _ = true
      kernel_rfl
    · simp -implicitDefEqProofs (maxSteps := 4000000) only [go_sem, go_sem_proc, ↓reduceIte, Nat.min_def, rank_spec, cmp_spec, rankV, c00, cmpV]
      change _ = true
      kernel_rfl
theorem Is_spec {nl : Bool} {k i : Int} {o : Option (List Int)} : dw E 42 [.agg [.bool nl, .int .i64 k, .int .i64 i, bl o]] [] = some (.bool (isV ⟨nl, k, i, o⟩), []) := by
  refine dw_intro (fn := Try.f42) rfl rfl (by decide) ?_
  by_cases h1 : k = 1
  · have e1 := eq_true h1
    cases nl
    · simp -implicitDefEqProofs (maxSteps := 4000000) only [go_sem, go_sem_proc, ↓reduceIte, Nat.min_def, isV, e1, Int.natCast_eq_zero]
    · by_cases hi : i = 0
      · have ei := eq_true hi
        simp -implicitDefEqProofs (maxSteps := 4000000) only [go_sem, go_sem_proc, ↓reduceIte, Nat.min_def, isV, e1, ei, Int.natCast_eq_zero]
      · simp -implicitDefEqProofs (maxSteps := 4000000) only [go_sem, go_sem_proc, ↓reduceIte, Nat.min_def, isV, e1, hi]
  · by_cases h2 : k = 2
    · have e2 := eq_true h2
      cases nl
      · by_cases hi : i = 0
        · have ei := eq_true hi
          have el : ((bz o).length : Int) ≤ 64 ↔ (bz o).length ≤ 64 := by omega
          simp -implicitDefEqProofs (maxSteps := 4000000) only [go_sem, go_sem_proc, ↓reduceIte, Nat.min_def, isV, h1, e2, ei, el]
        · simp -implicitDefEqProofs (maxSteps := 4000000) only [go_sem, go_sem_proc, ↓reduceIte, Nat.min_def, isV, h1, e2, hi]
      · by_cases hi : i = 0
        · have ei := eq_true hi
          simp -implicitDefEqProofs (maxSteps := 4000000) only [go_sem, go_sem_proc, ↓reduceIte, Nat.min_def, isV, h1, e2, ei, Int.natCast_eq_zero]
        · simp -implicitDefEqProofs (maxSteps := 4000000) only [go_sem, go_sem_proc, ↓reduceIte, Nat.min_def, isV, h1, e2, hi]
    · simp -implicitDefEqProofs (maxSteps := 4000000) only [go_sem, go_sem_proc, ↓reduceIte, Nat.min_def, isV, h1, h2]
theorem Holds_spec {nm : List UInt8} {ck : Int} {cn nl : Bool} {k i : Int} {o : Option (List Int)} : dw E 33 [.agg [.str nm, .int .i64 ck, .bool cn], .agg [.bool nl, .int .i64 k, .int .i64 i, bl o]] [] = some (.bool (holds ⟨nm, ck, cn⟩ ⟨nl, k, i, o⟩), []) := by
  refine dw_intro (fn := Try.f33) rfl rfl (by decide) ?_
  cases hv : isV ⟨nl, k, i, o⟩ with
  | false =>
    simp -implicitDefEqProofs (maxSteps := 4000000) only [go_sem, go_sem_proc, ↓reduceIte, Nat.min_def, Is_spec, holds, hv]
  | true =>
    by_cases hk : k = ck
    · have ek := eq_true hk
      cases cn
      · simp -implicitDefEqProofs (maxSteps := 4000000) only [go_sem, go_sem_proc, ↓reduceIte, Nat.min_def, Is_spec, holds, hv, ek]
      · simp -implicitDefEqProofs (maxSteps := 4000000) only [go_sem, go_sem_proc, ↓reduceIte, Nat.min_def, Is_spec, holds, hv, ek]
    · simp -implicitDefEqProofs (maxSteps := 4000000) only [go_sem, go_sem_proc, ↓reduceIte, Nat.min_def, Is_spec, holds, hv, hk]
theorem SameVal_spec {nl ml : Bool} {k i l j : Int} {o q : Option (List Int)} : dw E 32 [.agg [.bool nl, .int .i64 k, .int .i64 i, bl o], .agg [.bool ml, .int .i64 l, .int .i64 j, bl q]] [] = some (.bool (sameV ⟨nl, k, i, o⟩ ⟨ml, l, j, q⟩), []) := by
  refine dw_intro (fn := Try.f32) rfl rfl (by decide) ?_
  cases hn : (nl == ml) with
  | false => simp -implicitDefEqProofs (maxSteps := 4000000) only [go_sem, go_sem_proc, ↓reduceIte, Nat.min_def, sameV, hn]
  | true =>
    by_cases hk : k = l
    · have ek := eq_true hk
      by_cases hi : i = j
      · have ei := eq_true hi
        simp -implicitDefEqProofs (maxSteps := 4000000) only [go_sem, go_sem_proc, ↓reduceIte, Nat.min_def, sameV, hn, ek, ei, Val.b]
      · simp -implicitDefEqProofs (maxSteps := 4000000) only [go_sem, go_sem_proc, ↓reduceIte, Nat.min_def, sameV, hn, ek, hi]
    · simp -implicitDefEqProofs (maxSteps := 4000000) only [go_sem, go_sem_proc, ↓reduceIte, Nat.min_def, sameV, hn, hk]
end Go.Proofs.Ytfgbklmmildakaa.D
