/- Predicates of rows; of their own memory; the same. -/
import Derived.Test.YtgbeijemcojnpaaPred1
namespace Go.Proofs.Ytgbeijemcojnpaa.D
open Go Go.Den
set_option linter.unusedSimpArgs false
set_option linter.unusedVariables false
set_option maxRecDepth 20000
set_option maxHeartbeats 4000000
theorem atV_in {row : List Val} {c : Int} {i : Nat} {v : Val} (hc : c = i) (h : row[i]? = some v) : atV row c = v := by
  unfold atV; rw [if_pos (by omega), hc, Int.toNat_natCast, List.getD_eq_getElem?_getD, h]; rfl
theorem atV_out {row : List Val} {c : Int} (h : c < 0 ∨ (row.length : Int) ≤ c) : atV row c = valZ := by
  unfold atV
  split
  · rw [List.getD_eq_getElem?_getD, List.getElem?_eq_none (by omega)]; rfl
  · rfl
theorem bl_some (zs : List Int) : bl (some zs) = .sl 1 (ints .u8 zs) := rfl
theorem bl_none : bl none = .nils := rfl
theorem still_pv (q : Prd) : q.still.pv = [.int .i64 q.kind, .int .i64 q.col, .int .i64 q.op, .bool q.val.null, .int .i64 q.val.kind, .int .i64 q.val.int, .sl 1 (ints .u8 (bz q.val.bytes)), .sl 8 ((q.list.map Prd.still).map Prd.pv)] := by
  cases q; rw [still_mk, pv_mk]; rfl
theorem EqB_spec {o q : Option (List Int)} : dw E 59 [bl o, bl q] [] = some (.bool ((bz o).map toU8 == (bz q).map toU8), []) := by
  refine dw_in (fn := Try.f59) rfl rfl (by decide) ?_
  simp -implicitDefEqProofs (maxSteps := 4000000) (disch := omega) only [go_sem, go_sem_proc, dr, Nat.min_def, ↓Nat.reduceBEq, ↓Nat.reduceEqDiff, ↓Nat.reduceLT, ↓Nat.reduceLeDiff, ↓Int.reduceEq, ↓Int.reduceLT, ↓Int.reduceLE, ↓reduceIte]
theorem Equal_val {nl ml : Bool} {k i l j : Int} {o q : Option (List Int)} : dw E 55 [.agg [.bool nl, .int .i64 k, .int .i64 i, bl o], .agg [.bool ml, .int .i64 l, .int .i64 j, bl q]] [] = some (.bool (sameV ⟨nl, k, i, o⟩ ⟨ml, l, j, q⟩), []) := by
  refine dw_in (fn := Try.f55) rfl rfl (by decide) ?_
  unfold sameV
  simp only [Val.b]
  have hE := EqB_spec (o := o) (q := q)
  by_cases h1 : nl = ml
  · subst h1
    by_cases h2 : k = l
    · subst h2
      by_cases h3 : i = j
      · subst h3
        simp -implicitDefEqProofs (maxSteps := 4000000) (disch := omega) only [go_sem, go_sem_proc, dr, Nat.min_def, ↓Nat.reduceBEq, ↓Nat.reduceEqDiff, ↓Nat.reduceLT, ↓Nat.reduceLeDiff, ↓Int.reduceEq, ↓Int.reduceLT, ↓Int.reduceLE, ↓reduceIte, hE]
      · simp -implicitDefEqProofs (maxSteps := 4000000) (disch := omega) only [go_sem, go_sem_proc, dr, Nat.min_def, ↓Nat.reduceBEq, ↓Nat.reduceEqDiff, ↓Nat.reduceLT, ↓Nat.reduceLeDiff, ↓Int.reduceEq, ↓Int.reduceLT, ↓Int.reduceLE, ↓reduceIte, h3]
    · simp -implicitDefEqProofs (maxSteps := 4000000) (disch := omega) only [go_sem, go_sem_proc, dr, Nat.min_def, ↓Nat.reduceBEq, ↓Nat.reduceEqDiff, ↓Nat.reduceLT, ↓Nat.reduceLeDiff, ↓Int.reduceEq, ↓Int.reduceLT, ↓Int.reduceLE, ↓reduceIte, h2]
  · have h1' : (nl == ml) = false := by cases nl <;> cases ml <;> simp_all
    simp -implicitDefEqProofs (maxSteps := 4000000) (disch := omega) only [go_sem, go_sem_proc, dr, Nat.min_def, ↓Nat.reduceBEq, ↓Nat.reduceEqDiff, ↓Nat.reduceLT, ↓Nat.reduceLeDiff, ↓Int.reduceEq, ↓Int.reduceLT, ↓Int.reduceLE, ↓reduceIte, h1, h1']
end Go.Proofs.Ytgbeijemcojnpaa.D
