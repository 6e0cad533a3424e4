/- Predicates of rows; of their own memory; the same. -/
import Derived.Test.YtjhdickfkpcccaaPred1
namespace Go.Proofs.Ytjhdickfkpcccaa.D
open Go Go.Den
set_option linter.unusedSimpArgs false
set_option linter.unusedVariables false
set_option maxRecDepth 20000
set_option maxHeartbeats 4000000
theorem atV_in {row : List Val} {c : Int} {i : Nat} {v : Val} (hc : c = i) (h : row[i]? = some v) : atV row c = v := by
  unfold atV; rw [if_pos (by omega), hc, Int.toNat_natCast, List.getD_eq_getElem?_getD, h]; rfl
theorem atV_out {row : List Val} {c : Int} (h : c < 0 ∨ (row.length : Int) ≤ c) : atV row c = valZ := by
  unfold atV
  split
  · rw [List.getD_eq_getElem?_getD, List.getElem?_eq_none (by omega)]; rfl
  · rfl
theorem bl_some (zs : List Int) : bl (some zs) = .sl 1 (ints .u8 zs) := rfl
theorem bl_none : bl none = .nils := rfl
theorem still_pv (q : Prd) : q.still.pv = [.int .i64 q.kind, .int .i64 q.col, .int .i64 q.op, .bool q.val.null, .int .i64 q.val.kind, .int .i64 q.val.int, .sl 1 (ints .u8 (bz q.val.bytes)), .sl 8 ((q.list.map Prd.still).map Prd.pv)] := by
  cases q; rw [still_mk, pv_mk]; rfl
theorem Still_spec {p : Prd} (hp : Sm p) : dw E 39 [.agg [.int .i64 p.kind, .int .i64 p.col, .int .i64 p.op, .bool p.val.null, .int .i64 p.val.kind, .int .i64 p.val.int, bl p.val.bytes, pl p.nil p.list]] [] =
    some (.agg [.int .i64 p.kind, .int .i64 p.col, .int .i64 p.op, .bool p.val.null, .int .i64 p.val.kind, .int .i64 p.val.int, .nr 5 1 (ints .u8 (bz p.val.bytes)), .nr 41 8 ((p.list.map Prd.still).map Prd.pv)], []) := by
  induction p using Prd.ind with
  | h k c o v n l ih =>
    obtain ⟨hb, hl, hq⟩ := hp
    have ih := fun q hm => ih q hm (hq q hm)
    refine dw_in (fn := Try.f39) rfl rfl (by decide) ?_
    simp only [Prd.kind, Prd.col, Prd.op, Prd.val, Prd.nil, Prd.list]
    simp -implicitDefEqProofs (maxSteps := 4000000) (disch := omega) only [go_sem, go_sem_proc, dr, Nat.min_def, ↓Nat.reduceBEq, ↓Nat.reduceEqDiff, ↓Nat.reduceLT, ↓Nat.reduceLeDiff, ↓Int.reduceEq, ↓Int.reduceLT, ↓Int.reduceLE, ↓reduceIte, Val_spec hb]
    refine runs_for (fun i : Nat => (⟨[(1, .pb 1048577 0), (2, .pb 1048578 0), (3, .h 2097344), (11, pl n l), (12, .int .i64 l.length), (13, .int .i64 i)],
      [(1048577, some ⟨true, .box [.int .i64 k, .int .i64 c, .int .i64 o, .bool v.null, .int .i64 v.kind, .int .i64 v.int, .h 2097222, pl n l]⟩), (2097222, some ⟨true, .row 5 1 (ints .u8 (bz v.bytes))⟩), (1048578, some ⟨true, .box [.int .i64 0, .int .i64 0, .int .i64 0, .bool false, .int .i64 0, .int .i64 0, .nils, .nils]⟩), (2097344, some ⟨true, .row 41 8 (((l.take i).map Prd.still).map Prd.pv)⟩)], 1⟩ : St)) l.length ?_ ?_ ?_
    · simp -implicitDefEqProofs (maxSteps := 4000000) (disch := omega) only [go_sem, go_sem_proc, dr, Nat.min_def, ↓Nat.reduceBEq, ↓Nat.reduceEqDiff, ↓Nat.reduceLT, ↓Nat.reduceLeDiff, ↓Int.reduceEq, ↓Int.reduceLT, ↓Int.reduceLE, ↓reduceIte]
    · intro i hi
      obtain ⟨q, hq', hqm, ht⟩ := take_get hi
      have hst := ih q hqm
      simp -implicitDefEqProofs (maxSteps := 4000000) (disch := omega) only [go_sem, go_sem_proc, dr, Nat.min_def, ↓Nat.reduceBEq, ↓Nat.reduceEqDiff, ↓Nat.reduceLT, ↓Nat.reduceLeDiff, ↓Int.reduceEq, ↓Int.reduceLT, ↓Int.reduceLE, ↓reduceIte, hq', pl_get hi, pv_eq, hst, ht]
      rw [← still_pv q]
      simp only [List.map_append, List.map_cons, List.map_nil]
    · simp -implicitDefEqProofs (maxSteps := 4000000) (disch := omega) only [go_sem, go_sem_proc, dr, Nat.min_def, ↓Nat.reduceBEq, ↓Nat.reduceEqDiff, ↓Nat.reduceLT, ↓Nat.reduceLeDiff, ↓Int.reduceEq, ↓Int.reduceLT, ↓Int.reduceLE, ↓reduceIte, take_all]
theorem still_spec {l : List Prd} (n : Bool) (hl : l.length ≤ 1000000) (hp : ∀ q ∈ l, Sm q) : dw E 34 [pl n l] [] = some (.nr 41 8 ((l.map Prd.still).map Prd.pv), []) := by
  refine dw_in (fn := Try.f34) rfl rfl (by decide) ?_
  have hS := Still_spec (p := .mk 0 0 0 ⟨false, 0, 0, none⟩ n l) (.mk (by simp [bz]) hl hp)
  simp only [Prd.kind, Prd.col, Prd.op, Prd.val, Prd.nil, Prd.list, bl_none, bz_none, ints_nil] at hS
  simp -implicitDefEqProofs (maxSteps := 4000000) (disch := omega) only [go_sem, go_sem_proc, dr, Nat.min_def, ↓Nat.reduceBEq, ↓Nat.reduceEqDiff, ↓Nat.reduceLT, ↓Nat.reduceLeDiff, ↓Int.reduceEq, ↓Int.reduceLT, ↓Int.reduceLE, ↓reduceIte, hS]
theorem All_spec {l : List Prd} (n : Bool) (hl : l.length ≤ 1000000) (hp : ∀ q ∈ l, Sm q) : dw E 19 [pl n l] [] = some (.agg [.int .i64 4, .int .i64 0, .int .i64 0, .bool false, .int .i64 0, .int .i64 0, .nils, .nr 41 8 ((l.map Prd.still).map Prd.pv)], []) := by
  refine dw_in (fn := Try.f19) rfl rfl (by decide) ?_
  simp -implicitDefEqProofs (maxSteps := 4000000) (disch := omega) only [go_sem, go_sem_proc, dr, Nat.min_def, ↓Nat.reduceBEq, ↓Nat.reduceEqDiff, ↓Nat.reduceLT, ↓Nat.reduceLeDiff, ↓Int.reduceEq, ↓Int.reduceLT, ↓Int.reduceLE, ↓reduceIte, still_spec n hl hp]
theorem Any_spec {l : List Prd} (n : Bool) (hl : l.length ≤ 1000000) (hp : ∀ q ∈ l, Sm q) : dw E 20 [pl n l] [] = some (.agg [.int .i64 5, .int .i64 0, .int .i64 0, .bool false, .int .i64 0, .int .i64 0, .nils, .nr 41 8 ((l.map Prd.still).map Prd.pv)], []) := by
  refine dw_in (fn := Try.f20) rfl rfl (by decide) ?_
  simp -implicitDefEqProofs (maxSteps := 4000000) (disch := omega) only [go_sem, go_sem_proc, dr, Nat.min_def, ↓Nat.reduceBEq, ↓Nat.reduceEqDiff, ↓Nat.reduceLT, ↓Nat.reduceLeDiff, ↓Int.reduceEq, ↓Int.reduceLT, ↓Int.reduceLE, ↓reduceIte, still_spec n hl hp]
theorem Not_spec {p : Prd} (hp : Sm p) : dw E 32 [.agg [.int .i64 p.kind, .int .i64 p.col, .int .i64 p.op, .bool p.val.null, .int .i64 p.val.kind, .int .i64 p.val.int, bl p.val.bytes, pl p.nil p.list]] [] = some (.agg [.int .i64 6, .int .i64 0, .int .i64 0, .bool false, .int .i64 0, .int .i64 0, .nils, .nr 41 8 ([p.still].map Prd.pv)], []) := by
  refine dw_in (fn := Try.f32) rfl rfl (by decide) ?_
  have hs := still_spec (l := [p]) false (by simp) (fun q hq => by simp at hq; subst hq; exact hp)
  rw [pl_false, List.map_cons, List.map_nil, pv_eq] at hs
  simp -implicitDefEqProofs (maxSteps := 4000000) (disch := omega) only [go_sem, go_sem_proc, dr, Nat.min_def, ↓Nat.reduceBEq, ↓Nat.reduceEqDiff, ↓Nat.reduceLT, ↓Nat.reduceLeDiff, ↓Int.reduceEq, ↓Int.reduceLT, ↓Int.reduceLE, ↓reduceIte, hs]
end Go.Proofs.Ytjhdickfkpcccaa.D
