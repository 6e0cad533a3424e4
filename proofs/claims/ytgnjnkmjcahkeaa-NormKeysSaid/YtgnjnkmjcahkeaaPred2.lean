/- Predicates of rows; of their own memory; the same. -/
import Derived.Test.YtgnjnkmjcahkeaaPred1
namespace Go.Proofs.Ytgnjnkmjcahkeaa.D
open Go Go.Den
set_option linter.unusedSimpArgs false
set_option linter.unusedVariables false
set_option maxRecDepth 20000
set_option maxHeartbeats 4000000
theorem atV_in {row : List Val} {c : Int} {i : Nat} {v : Val} (hc : c = i) (h : row[i]? = some v) : atV row c = v := by
  unfold atV; rw [if_pos (by omega), hc, Int.toNat_natCast, List.getD_eq_getElem?_getD, h]; rfl
theorem atV_out {row : List Val} {c : Int} (h : c < 0 ∨ (row.length : Int) ≤ c) : atV row c = valZ := by
  unfold atV
  split
  · rw [List.getD_eq_getElem?_getD, List.getElem?_eq_none (by omega)]; rfl
  · rfl
theorem bl_some (zs : List Int) : bl (some zs) = .sl 1 (ints .u8 zs) := rfl
theorem bl_none : bl none = .nils := rfl
theorem Eval_spec {row : List Val} (hr : R1 row) {p : Prd} (hp : Sm p) : dw E 18 [.agg [.int .i64 p.kind, .int .i64 p.col, .int .i64 p.op, .bool p.val.null, .int .i64 p.val.kind, .int .i64 p.val.int, bl p.val.bytes, pl p.nil p.list], .sl 4 (row.map Val.pv)] [] = some (.int .i64 (p.eval row), []) := by
  induction p using Prd.ind with
  | h k c o v n l ih =>
    obtain ⟨hb, hl, hq⟩ := hp
    have ih := fun q hm => ih q hm (hq q hm)
    refine dw_in (fn := Try.f18) rfl rfl (by decide) ?_
    rw [eval_mk]
    simp only [Prd.kind, Prd.col, Prd.op, Prd.val, Prd.nil, Prd.list]
    by_cases h1 : k = 1
    · subst h1; simp -implicitDefEqProofs (maxSteps := 4000000) (disch := omega) only [go_sem, go_sem_proc, dr, Nat.min_def, ↓Nat.reduceBEq, ↓Nat.reduceEqDiff, ↓Nat.reduceLT, ↓Nat.reduceLeDiff, ↓Int.reduceEq, ↓Int.reduceLT, ↓Int.reduceLE, ↓reduceIte]
    by_cases h2 : k = 2
    · subst h2
      by_cases hin : c < 0 ∨ (row.length : Int) ≤ c
      · rw [atV_out hin]
        have hc := Compare_spec (nl := false) (ml := v.null) (k := 0) (i := 0) (l := v.kind) (j := v.int) (o := none) (q := v.bytes)
        rw [bl_none] at hc
        simp -implicitDefEqProofs (maxSteps := 4000000) (disch := omega) only [go_sem, go_sem_proc, dr, Nat.min_def, ↓Nat.reduceBEq, ↓Nat.reduceEqDiff, ↓Nat.reduceLT, ↓Nat.reduceLeDiff, ↓Int.reduceEq, ↓Int.reduceLT, ↓Int.reduceLE, ↓reduceIte, At_out hin, valZ, hc, Holds_pred, truth_spec]
        ((repeat' split) <;> (change _ = true; kernel_rfl))
      · obtain ⟨i, rfl⟩ := Int.eq_ofNat_of_zero_le (a := c) (by omega)
        obtain ⟨w, hw, _, _⟩ := take_get (show i < row.length by omega)
        rw [atV_in rfl hw]
        cases hn : w.null with
        | true => simp -implicitDefEqProofs (maxSteps := 4000000) (disch := omega) only [go_sem, go_sem_proc, dr, Nat.min_def, ↓Nat.reduceBEq, ↓Nat.reduceEqDiff, ↓Nat.reduceLT, ↓Nat.reduceLeDiff, ↓Int.reduceEq, ↓Int.reduceLT, ↓Int.reduceLE, ↓reduceIte, At_in hw hr, hn]
        | false =>
          have hc := Compare_spec (nl := w.null) (ml := v.null) (k := w.kind) (i := w.int) (l := v.kind) (j := v.int) (o := some (bz w.bytes)) (q := v.bytes)
          rw [show cmpV ⟨w.null, w.kind, w.int, some (bz w.bytes)⟩ ⟨v.null, v.kind, v.int, v.bytes⟩ = cmpV w v from rfl, hn] at hc
          rw [bl_some] at hc
          simp -implicitDefEqProofs (maxSteps := 4000000) (disch := omega) only [go_sem, go_sem_proc, dr, Nat.min_def, ↓Nat.reduceBEq, ↓Nat.reduceEqDiff, ↓Nat.reduceLT, ↓Nat.reduceLeDiff, ↓Int.reduceEq, ↓Int.reduceLT, ↓Int.reduceLE, ↓reduceIte, At_in hw hr, hn, hc, Holds_pred, truth_spec]
          ((repeat' split) <;> (change _ = true; kernel_rfl))
    by_cases h3 : k = 3
    · subst h3
      by_cases hin : c < 0 ∨ (row.length : Int) ≤ c
      · rw [atV_out hin]
        simp -implicitDefEqProofs (maxSteps := 4000000) (disch := omega) only [go_sem, go_sem_proc, dr, Nat.min_def, ↓Nat.reduceBEq, ↓Nat.reduceEqDiff, ↓Nat.reduceLT, ↓Nat.reduceLeDiff, ↓Int.reduceEq, ↓Int.reduceLT, ↓Int.reduceLE, ↓reduceIte, At_out hin, valZ, truth_spec]
      · obtain ⟨i, rfl⟩ := Int.eq_ofNat_of_zero_le (a := c) (by omega)
        obtain ⟨w, hw, _, _⟩ := take_get (show i < row.length by omega)
        rw [atV_in rfl hw]
        simp -implicitDefEqProofs (maxSteps := 4000000) (disch := omega) only [go_sem, go_sem_proc, dr, Nat.min_def, ↓Nat.reduceBEq, ↓Nat.reduceEqDiff, ↓Nat.reduceLT, ↓Nat.reduceLeDiff, ↓Int.reduceEq, ↓Int.reduceLT, ↓Int.reduceLE, ↓reduceIte, At_in hw hr, truth_spec]
    by_cases h4 : k = 4
    · subst h4
      simp -implicitDefEqProofs (maxSteps := 4000000) (disch := omega) only [go_sem, go_sem_proc, dr, Nat.min_def, ↓Nat.reduceBEq, ↓Nat.reduceEqDiff, ↓Nat.reduceLT, ↓Nat.reduceLeDiff, ↓Int.reduceEq, ↓Int.reduceLT, ↓Int.reduceLE, ↓reduceIte, list_spec hl ih]
    by_cases h5 : k = 5
    · subst h5
      simp -implicitDefEqProofs (maxSteps := 4000000) (disch := omega) only [go_sem, go_sem_proc, dr, Nat.min_def, ↓Nat.reduceBEq, ↓Nat.reduceEqDiff, ↓Nat.reduceLT, ↓Nat.reduceLeDiff, ↓Int.reduceEq, ↓Int.reduceLT, ↓Int.reduceLE, ↓reduceIte, list_spec hl ih]
    by_cases h6 : k = 6
    · subst h6
      cases l with
      | nil => simp -implicitDefEqProofs (maxSteps := 4000000) (disch := omega) only [go_sem, go_sem_proc, dr, Nat.min_def, ↓Nat.reduceBEq, ↓Nat.reduceEqDiff, ↓Nat.reduceLT, ↓Nat.reduceLeDiff, ↓Int.reduceEq, ↓Int.reduceLT, ↓Int.reduceLE, ↓reduceIte]
      | cons q r =>
        have hev := ih q List.mem_cons_self
        simp -implicitDefEqProofs (maxSteps := 4000000) (disch := omega) only [go_sem, go_sem_proc, dr, Nat.min_def, ↓Nat.reduceBEq, ↓Nat.reduceEqDiff, ↓Nat.reduceLT, ↓Nat.reduceLeDiff, ↓Int.reduceEq, ↓Int.reduceLT, ↓Int.reduceLE, ↓reduceIte, pl_some, pv_eq, hev, not_spec]
    simp -implicitDefEqProofs (maxSteps := 4000000) (disch := omega) only [go_sem, go_sem_proc, dr, Nat.min_def, ↓Nat.reduceBEq, ↓Nat.reduceEqDiff, ↓Nat.reduceLT, ↓Nat.reduceLeDiff, ↓Int.reduceEq, ↓Int.reduceLT, ↓Int.reduceLE, ↓reduceIte, h1, h2, h3, h4, h5, h6]
theorem still_pv (q : Prd) : q.still.pv = [.int .i64 q.kind, .int .i64 q.col, .int .i64 q.op, .bool q.val.null, .int .i64 q.val.kind, .int .i64 q.val.int, .sl 1 (ints .u8 (bz q.val.bytes)), .sl 8 ((q.list.map Prd.still).map Prd.pv)] := by
  cases q; rw [still_mk, pv_mk]; rfl
theorem Still_spec {p : Prd} (hp : Sm p) : dw E 58 [.agg [.int .i64 p.kind, .int .i64 p.col, .int .i64 p.op, .bool p.val.null, .int .i64 p.val.kind, .int .i64 p.val.int, bl p.val.bytes, pl p.nil p.list]] [] =
    some (.agg [.int .i64 p.kind, .int .i64 p.col, .int .i64 p.op, .bool p.val.null, .int .i64 p.val.kind, .int .i64 p.val.int, .nr 5 1 (ints .u8 (bz p.val.bytes)), .nr 28 8 ((p.list.map Prd.still).map Prd.pv)], []) := by
  induction p using Prd.ind with
  | h k c o v n l ih =>
    obtain ⟨hb, hl, hq⟩ := hp
    have ih := fun q hm => ih q hm (hq q hm)
    refine dw_in (fn := Try.f58) rfl rfl (by decide) ?_
    simp only [Prd.kind, Prd.col, Prd.op, Prd.val, Prd.nil, Prd.list]
    simp -implicitDefEqProofs (maxSteps := 4000000) (disch := omega) only [go_sem, go_sem_proc, dr, Nat.min_def, ↓Nat.reduceBEq, ↓Nat.reduceEqDiff, ↓Nat.reduceLT, ↓Nat.reduceLeDiff, ↓Int.reduceEq, ↓Int.reduceLT, ↓Int.reduceLE, ↓reduceIte, Val_spec hb]
    refine runs_for (fun i : Nat => (⟨[(1, .pb 1048577 0), (2, .pb 1048578 0), (3, .h 2097344), (11, pl n l), (12, .int .i64 l.length), (13, .int .i64 i)],
      [(1048577, some ⟨true, .box [.int .i64 k, .int .i64 c, .int .i64 o, .bool v.null, .int .i64 v.kind, .int .i64 v.int, .h 2097222, pl n l]⟩), (2097222, some ⟨true, .row 5 1 (ints .u8 (bz v.bytes))⟩), (1048578, some ⟨true, .box [.int .i64 0, .int .i64 0, .int .i64 0, .bool false, .int .i64 0, .int .i64 0, .nils, .nils]⟩), (2097344, some ⟨true, .row 28 8 (((l.take i).map Prd.still).map Prd.pv)⟩)], 1⟩ : St)) l.length ?_ ?_ ?_
    · simp -implicitDefEqProofs (maxSteps := 4000000) (disch := omega) only [go_sem, go_sem_proc, dr, Nat.min_def, ↓Nat.reduceBEq, ↓Nat.reduceEqDiff, ↓Nat.reduceLT, ↓Nat.reduceLeDiff, ↓Int.reduceEq, ↓Int.reduceLT, ↓Int.reduceLE, ↓reduceIte]
    · intro i hi
      obtain ⟨q, hq', hqm, ht⟩ := take_get hi
      have hst := ih q hqm
      simp -implicitDefEqProofs (maxSteps := 4000000) (disch := omega) only [go_sem, go_sem_proc, dr, Nat.min_def, ↓Nat.reduceBEq, ↓Nat.reduceEqDiff, ↓Nat.reduceLT, ↓Nat.reduceLeDiff, ↓Int.reduceEq, ↓Int.reduceLT, ↓Int.reduceLE, ↓reduceIte, hq', pl_get hi, pv_eq, hst, ht]
      rw [← still_pv q]
      simp only [List.map_append, List.map_cons, List.map_nil]
    · simp -implicitDefEqProofs (maxSteps := 4000000) (disch := omega) only [go_sem, go_sem_proc, dr, Nat.min_def, ↓Nat.reduceBEq, ↓Nat.reduceEqDiff, ↓Nat.reduceLT, ↓Nat.reduceLeDiff, ↓Int.reduceEq, ↓Int.reduceLT, ↓Int.reduceLE, ↓reduceIte, take_all]
theorem still_spec {l : List Prd} (n : Bool) (hl : l.length ≤ 1000000) (hp : ∀ q ∈ l, Sm q) : dw E 39 [pl n l] [] = some (.nr 28 8 ((l.map Prd.still).map Prd.pv), []) := by
  refine dw_in (fn := Try.f39) rfl rfl (by decide) ?_
  have hS := Still_spec (p := .mk 0 0 0 ⟨false, 0, 0, none⟩ n l) (.mk (by simp [bz]) hl hp)
  simp only [Prd.kind, Prd.col, Prd.op, Prd.val, Prd.nil, Prd.list, bl_none, bz_none, ints_nil] at hS
  simp -implicitDefEqProofs (maxSteps := 4000000) (disch := omega) only [go_sem, go_sem_proc, dr, Nat.min_def, ↓Nat.reduceBEq, ↓Nat.reduceEqDiff, ↓Nat.reduceLT, ↓Nat.reduceLeDiff, ↓Int.reduceEq, ↓Int.reduceLT, ↓Int.reduceLE, ↓reduceIte, hS]
theorem All_spec {l : List Prd} (n : Bool) (hl : l.length ≤ 1000000) (hp : ∀ q ∈ l, Sm q) : dw E 15 [pl n l] [] = some (.agg [.int .i64 4, .int .i64 0, .int .i64 0, .bool false, .int .i64 0, .int .i64 0, .nils, .nr 28 8 ((l.map Prd.still).map Prd.pv)], []) := by
  refine dw_in (fn := Try.f15) rfl rfl (by decide) ?_
  simp -implicitDefEqProofs (maxSteps := 4000000) (disch := omega) only [go_sem, go_sem_proc, dr, Nat.min_def, ↓Nat.reduceBEq, ↓Nat.reduceEqDiff, ↓Nat.reduceLT, ↓Nat.reduceLeDiff, ↓Int.reduceEq, ↓Int.reduceLT, ↓Int.reduceLE, ↓reduceIte, still_spec n hl hp]
theorem Any_spec {l : List Prd} (n : Bool) (hl : l.length ≤ 1000000) (hp : ∀ q ∈ l, Sm q) : dw E 16 [pl n l] [] = some (.agg [.int .i64 5, .int .i64 0, .int .i64 0, .bool false, .int .i64 0, .int .i64 0, .nils, .nr 28 8 ((l.map Prd.still).map Prd.pv)], []) := by
  refine dw_in (fn := Try.f16) rfl rfl (by decide) ?_
  simp -implicitDefEqProofs (maxSteps := 4000000) (disch := omega) only [go_sem, go_sem_proc, dr, Nat.min_def, ↓Nat.reduceBEq, ↓Nat.reduceEqDiff, ↓Nat.reduceLT, ↓Nat.reduceLeDiff, ↓Int.reduceEq, ↓Int.reduceLT, ↓Int.reduceLE, ↓reduceIte, still_spec n hl hp]
theorem Not_spec {p : Prd} (hp : Sm p) : dw E 17 [.agg [.int .i64 p.kind, .int .i64 p.col, .int .i64 p.op, .bool p.val.null, .int .i64 p.val.kind, .int .i64 p.val.int, bl p.val.bytes, pl p.nil p.list]] [] = some (.agg [.int .i64 6, .int .i64 0, .int .i64 0, .bool false, .int .i64 0, .int .i64 0, .nils, .nr 28 8 ([p.still].map Prd.pv)], []) := by
  refine dw_in (fn := Try.f17) rfl rfl (by decide) ?_
  have hs := still_spec (l := [p]) false (by simp) (fun q hq => by simp at hq; subst hq; exact hp)
  rw [pl_false, List.map_cons, List.map_nil, pv_eq] at hs
  simp -implicitDefEqProofs (maxSteps := 4000000) (disch := omega) only [go_sem, go_sem_proc, dr, Nat.min_def, ↓Nat.reduceBEq, ↓Nat.reduceEqDiff, ↓Nat.reduceLT, ↓Nat.reduceLeDiff, ↓Int.reduceEq, ↓Int.reduceLT, ↓Int.reduceLE, ↓reduceIte, hs]
theorem EqB_spec {o q : Option (List Int)} : dw E 80 [bl o, bl q] [] = some (.bool ((bz o).map toU8 == (bz q).map toU8), []) := by
  refine dw_in (fn := Try.f80) rfl rfl (by decide) ?_
  simp -implicitDefEqProofs (maxSteps := 4000000) (disch := omega) only [go_sem, go_sem_proc, dr, Nat.min_def, ↓Nat.reduceBEq, ↓Nat.reduceEqDiff, ↓Nat.reduceLT, ↓Nat.reduceLeDiff, ↓Int.reduceEq, ↓Int.reduceLT, ↓Int.reduceLE, ↓reduceIte]
theorem Equal_val {nl ml : Bool} {k i l j : Int} {o q : Option (List Int)} : dw E 64 [.agg [.bool nl, .int .i64 k, .int .i64 i, bl o], .agg [.bool ml, .int .i64 l, .int .i64 j, bl q]] [] = some (.bool (sameV ⟨nl, k, i, o⟩ ⟨ml, l, j, q⟩), []) := by
  refine dw_in (fn := Try.f64) rfl rfl (by decide) ?_
  unfold sameV
  simp only [Val.b]
  have hE := EqB_spec (o := o) (q := q)
  by_cases h1 : nl = ml
  · subst h1
    by_cases h2 : k = l
    · subst h2
      by_cases h3 : i = j
      · subst h3
        simp -implicitDefEqProofs (maxSteps := 4000000) (disch := omega) only [go_sem, go_sem_proc, dr, Nat.min_def, ↓Nat.reduceBEq, ↓Nat.reduceEqDiff, ↓Nat.reduceLT, ↓Nat.reduceLeDiff, ↓Int.reduceEq, ↓Int.reduceLT, ↓Int.reduceLE, ↓reduceIte, hE]
      · simp -implicitDefEqProofs (maxSteps := 4000000) (disch := omega) only [go_sem, go_sem_proc, dr, Nat.min_def, ↓Nat.reduceBEq, ↓Nat.reduceEqDiff, ↓Nat.reduceLT, ↓Nat.reduceLeDiff, ↓Int.reduceEq, ↓Int.reduceLT, ↓Int.reduceLE, ↓reduceIte, h3]
    · simp -implicitDefEqProofs (maxSteps := 4000000) (disch := omega) only [go_sem, go_sem_proc, dr, Nat.min_def, ↓Nat.reduceBEq, ↓Nat.reduceEqDiff, ↓Nat.reduceLT, ↓Nat.reduceLeDiff, ↓Int.reduceEq, ↓Int.reduceLT, ↓Int.reduceLE, ↓reduceIte, h2]
  · have h1' : (nl == ml) = false := by cases nl <;> cases ml <;> simp_all
    simp -implicitDefEqProofs (maxSteps := 4000000) (disch := omega) only [go_sem, go_sem_proc, dr, Nat.min_def, ↓Nat.reduceBEq, ↓Nat.reduceEqDiff, ↓Nat.reduceLT, ↓Nat.reduceLeDiff, ↓Int.reduceEq, ↓Int.reduceLT, ↓Int.reduceLE, ↓reduceIte, h1, h1']
end Go.Proofs.Ytgnjnkmjcahkeaa.D
