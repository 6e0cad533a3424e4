/- What expr asks of sets, aggregates, and of what an op has. -/
import Derived.Test.YtgbeijemcojnpaaExpr1
namespace Go.Proofs.Ytgbeijemcojnpaa.D
open Go Go.Den
set_option linter.unusedSimpArgs false
set_option linter.unusedVariables false
set_option maxRecDepth 20000
set_option maxHeartbeats 8000000
def sameZ (p : Prd) : Bool := decide (p.kind = 0) && (decide (p.col = 0) && (decide (p.op = 0) && (noneV p.val && decide (p.list.length = 0))))
theorem EqualFunc0 {n : Bool} {l : List Prd} : dw E 56 [pl n l, .nils, .fn 49 []] [] = some (.bool (decide (l.length = 0)), []) := by
  cases l with
  | nil =>
    refine dw_in (fn := Try.f56) rfl body56 (by simp) ?_
    simp -implicitDefEqProofs (maxSteps := 4000000) (disch := omega) only [go_sem, go_sem_proc, dr, Nat.min_def, ↓Nat.reduceBEq, ↓Nat.reduceEqDiff, ↓Nat.reduceLT, ↓Nat.reduceLeDiff, ↓Int.reduceEq, ↓Int.reduceLT, ↓Int.reduceLE, ↓reduceIte, List.length_nil]
    refine runs_for (fun i : Nat => (⟨[(1, .nils), (2, .fn 49 []), (15, pl n []), (16, .int .i64 0), (17, .int .i64 i)], [], 1⟩ : St)) 0 ?_ (fun i h => absurd h (Nat.not_lt_zero i)) ?_
    · simp -implicitDefEqProofs (maxSteps := 4000000) (disch := omega) only [go_sem, go_sem_proc, dr, Nat.min_def, ↓Nat.reduceBEq, ↓Nat.reduceEqDiff, ↓Nat.reduceLT, ↓Nat.reduceLeDiff, ↓Int.reduceEq, ↓Int.reduceLT, ↓Int.reduceLE, ↓reduceIte]
    · simp -implicitDefEqProofs (maxSteps := 4000000) (disch := omega) only [go_sem, go_sem_proc, dr, Nat.min_def, ↓Nat.reduceBEq, ↓Nat.reduceEqDiff, ↓Nat.reduceLT, ↓Nat.reduceLeDiff, ↓Int.reduceEq, ↓Int.reduceLT, ↓Int.reduceLE, ↓reduceIte]
  | cons a r =>
    refine dw_in (fn := Try.f56) rfl body56 (by simp) ?_
    have hl : ((r.length : Int) + 1 = 0) = False := eq_false (by omega)
    have hl' : (r.length + 1 = 0) = False := eq_false (by omega)
    simp -implicitDefEqProofs (maxSteps := 4000000) (disch := omega) only [go_sem, go_sem_proc, dr, Nat.min_def, ↓Nat.reduceBEq, ↓Nat.reduceEqDiff, ↓Nat.reduceLT, ↓Nat.reduceLeDiff, ↓Int.reduceEq, ↓Int.reduceLT, ↓Int.reduceLE, ↓reduceIte, List.length_cons, hl, hl', decide_false]
theorem same0_spec {k c o : Int} {v : Val} {n : Bool} {l : List Prd} : dw E 49 [.agg [.int .i64 k, .int .i64 c, .int .i64 o, .bool v.null, .int .i64 v.kind, .int .i64 v.int, bl v.bytes, pl n l], .agg [.int .i64 0, .int .i64 0, .int .i64 0, .bool false, .int .i64 0, .int .i64 0, .nils, .nils]] [] = some (.bool (decide (k = 0) && (decide (c = 0) && (decide (o = 0) && (noneV v && decide (l.length = 0))))), []) := by
  have hE := Equal_val (nl := v.null) (ml := false) (k := v.kind) (i := v.int) (l := 0) (j := 0) (o := v.bytes) (q := none)
  rw [bl_none, show sameV ⟨v.null, v.kind, v.int, v.bytes⟩ ⟨false, 0, 0, none⟩ = noneV v from rfl] at hE
  have hF := EqualFunc0 (n := n) (l := l)
  refine dw_in (fn := Try.f49) rfl body49 (by simp) ?_
  rcases Classical.propComplete (k = 0) with h1 | h1
  · rcases Classical.propComplete (c = 0) with h2 | h2
    · rcases Classical.propComplete (o = 0) with h3 | h3
      · cases hn : noneV v <;> rw [hn] at hE <;> simp -implicitDefEqProofs (maxSteps := 4000000) (disch := omega) only [go_sem, go_sem_proc, dr, Nat.min_def, ↓Nat.reduceBEq, ↓Nat.reduceEqDiff, ↓Nat.reduceLT, ↓Nat.reduceLeDiff, ↓Int.reduceEq, ↓Int.reduceLT, ↓Int.reduceLE, ↓reduceIte, h1, h2, h3, hE, hF, decide_true, decide_false, Bool.true_and, Bool.false_and]
      · simp -implicitDefEqProofs (maxSteps := 4000000) (disch := omega) only [go_sem, go_sem_proc, dr, Nat.min_def, ↓Nat.reduceBEq, ↓Nat.reduceEqDiff, ↓Nat.reduceLT, ↓Nat.reduceLeDiff, ↓Int.reduceEq, ↓Int.reduceLT, ↓Int.reduceLE, ↓reduceIte, h1, h2, h3, decide_true, decide_false, Bool.true_and, Bool.false_and]
    · simp -implicitDefEqProofs (maxSteps := 4000000) (disch := omega) only [go_sem, go_sem_proc, dr, Nat.min_def, ↓Nat.reduceBEq, ↓Nat.reduceEqDiff, ↓Nat.reduceLT, ↓Nat.reduceLeDiff, ↓Int.reduceEq, ↓Int.reduceLT, ↓Int.reduceLE, ↓reduceIte, h1, h2, decide_true, decide_false, Bool.true_and, Bool.false_and]
  · simp -implicitDefEqProofs (maxSteps := 4000000) (disch := omega) only [go_sem, go_sem_proc, dr, Nat.min_def, ↓Nat.reduceBEq, ↓Nat.reduceEqDiff, ↓Nat.reduceLT, ↓Nat.reduceLeDiff, ↓Int.reduceEq, ↓Int.reduceLT, ↓Int.reduceLE, ↓reduceIte, h1, decide_true, decide_false, Bool.true_and, Bool.false_and]
theorem nonex_spec {p : Prd} : dw E 36 [.agg [.int .i64 p.kind, .int .i64 p.col, .int .i64 p.op, .bool p.val.null, .int .i64 p.val.kind, .int .i64 p.val.int, bl p.val.bytes, pl p.nil p.list]] [] = some (.bool (sameZ p), []) := by
  have hS := same0_spec (k := p.kind) (c := p.col) (o := p.op) (v := p.val) (n := p.nil) (l := p.list)
  refine dw_in (fn := Try.f36) rfl body36 (by simp) ?_
  simp -implicitDefEqProofs (maxSteps := 4000000) (disch := omega) only [go_sem, go_sem_proc, dr, Nat.min_def, ↓Nat.reduceBEq, ↓Nat.reduceEqDiff, ↓Nat.reduceLT, ↓Nat.reduceLeDiff, ↓Int.reduceEq, ↓Int.reduceLT, ↓Int.reduceLE, ↓reduceIte, hS, sameZ]
theorem in_spec {s : List Col} {c : Int} (hs : s.length ≤ 20) : dw E 22 [.agg [.sl 3 (s.map Col.pv)], .int .i64 c] [] = some (.bool (inB s c), []) := by
  unfold inB
  refine dw_in (fn := Try.f22) rfl body22 (by simp) ?_
  rcases Classical.propComplete (0 ≤ c) with h1 | h1
  · simp -implicitDefEqProofs (maxSteps := 4000000) (disch := omega) only [go_sem, go_sem_proc, dr, Nat.min_def, ↓Nat.reduceBEq, ↓Nat.reduceEqDiff, ↓Nat.reduceLT, ↓Nat.reduceLeDiff, ↓Int.reduceEq, ↓Int.reduceLT, ↓Int.reduceLE, ↓reduceIte, h1, decide_true, Bool.true_and]
  · simp -implicitDefEqProofs (maxSteps := 4000000) (disch := omega) only [go_sem, go_sem_proc, dr, Nat.min_def, ↓Nat.reduceBEq, ↓Nat.reduceEqDiff, ↓Nat.reduceLT, ↓Nat.reduceLeDiff, ↓Int.reduceEq, ↓Int.reduceLT, ↓Int.reduceLE, ↓reduceIte, h1, decide_false, Bool.false_and]
theorem bad_spec {s : List Col} {c : Int} (hs : s.length ≤ 20) : dw E 21 [.int .i64 c, .pc [.sl 3 (s.map Col.pv)]] [] = some (.bool (!inB s c), []) := by
  have hI := in_spec (s := s) (c := c) hs
  refine dw_in (fn := Try.f21) rfl body21 (by simp) ?_
  simp -implicitDefEqProofs (maxSteps := 4000000) (disch := omega) only [go_sem, go_sem_proc, dr, Nat.min_def, ↓Nat.reduceBEq, ↓Nat.reduceEqDiff, ↓Nat.reduceLT, ↓Nat.reduceLeDiff, ↓Int.reduceEq, ↓Int.reduceLT, ↓Int.reduceLE, ↓reduceIte, hI]
/-- which aggregates, which sets -/
def aggB (s : List Col) (a : AggN) : Bool := if a.kind = 1 then decide (a.col = 0) else if a.kind = 2 then inB s a.col && decide (kindAt s a.col = 1) else if a.kind = 3 ∨ a.kind = 4 then inB s a.col else false
theorem col_at {s : List Col} {c : Int} (h : inB s c = true) : ∃ (i : Nat) (q : Col), c = i ∧ i < s.length ∧ s[i]? = some q ∧ kindAt s c = q.kind := by
  unfold inB at h
  simp only [Bool.and_eq_true, decide_eq_true_eq] at h
  obtain ⟨i, rfl⟩ := Int.eq_ofNat_of_zero_le h.1
  have hi : i < s.length := by omega
  obtain ⟨q, hq, _⟩ := take_get hi
  refine ⟨i, q, rfl, hi, hq, ?_⟩
  unfold kindAt
  rw [Int.toNat_natCast, List.getD_eq_getElem?_getD, hq]
  rfl
theorem agg_spec {s : List Col} {a : AggN} (hs : s.length ≤ 20) : dw E 25 [.agg [.sl 3 (s.map Col.pv)], .agg [.int .i64 a.kind, .int .i64 a.col]] [] = some (.bool (aggB s a), []) := by
  obtain ⟨k, c⟩ := a
  have hI := in_spec (s := s) (c := c) hs
  unfold aggB
  dsimp only
  by_cases h1 : k = 1
  · subst h1
    rcases Classical.propComplete (c = 0) with hc | hc <;> (refine dw_in (fn := Try.f25) rfl body25 (by simp) ?_) <;> simp -implicitDefEqProofs (maxSteps := 4000000) (disch := omega) only [go_sem, go_sem_proc, dr, Nat.min_def, ↓Nat.reduceBEq, ↓Nat.reduceEqDiff, ↓Nat.reduceLT, ↓Nat.reduceLeDiff, ↓Int.reduceEq, ↓Int.reduceLT, ↓Int.reduceLE, ↓reduceIte, hc, decide_true, decide_false]
  · have h1' := eq_false h1
    by_cases h2 : k = 2
    · subst h2
      cases hb : inB s c with
      | false =>
        rw [hb] at hI
        refine dw_in (fn := Try.f25) rfl body25 (by simp) ?_
        simp -implicitDefEqProofs (maxSteps := 4000000) (disch := omega) only [go_sem, go_sem_proc, dr, Nat.min_def, ↓Nat.reduceBEq, ↓Nat.reduceEqDiff, ↓Nat.reduceLT, ↓Nat.reduceLeDiff, ↓Int.reduceEq, ↓Int.reduceLT, ↓Int.reduceLE, ↓reduceIte, hI, Bool.false_and]
      | true =>
        rw [hb] at hI
        obtain ⟨i, q, rfl, hi, hq, hk⟩ := col_at hb
        refine dw_in (fn := Try.f25) rfl body25 (by simp) ?_
        simp -implicitDefEqProofs (maxSteps := 4000000) (disch := omega) only [go_sem, go_sem_proc, dr, Nat.min_def, ↓Nat.reduceBEq, ↓Nat.reduceEqDiff, ↓Nat.reduceLT, ↓Nat.reduceLeDiff, ↓Int.reduceEq, ↓Int.reduceLT, ↓Int.reduceLE, ↓reduceIte, hI, hq, hk, Bool.true_and]
        first | done | ((repeat' split) <;> (change _ = true; kernel_rfl))
    · have h2' := eq_false h2
      by_cases h3 : k = 3
      · subst h3
        refine dw_in (fn := Try.f25) rfl body25 (by simp) ?_
        simp -implicitDefEqProofs (maxSteps := 4000000) (disch := omega) only [go_sem, go_sem_proc, dr, Nat.min_def, ↓Nat.reduceBEq, ↓Nat.reduceEqDiff, ↓Nat.reduceLT, ↓Nat.reduceLeDiff, ↓Int.reduceEq, ↓Int.reduceLT, ↓Int.reduceLE, ↓reduceIte, hI, true_or]
      · have h3' := eq_false h3
        by_cases h4 : k = 4
        · subst h4
          refine dw_in (fn := Try.f25) rfl body25 (by simp) ?_
          simp -implicitDefEqProofs (maxSteps := 4000000) (disch := omega) only [go_sem, go_sem_proc, dr, Nat.min_def, ↓Nat.reduceBEq, ↓Nat.reduceEqDiff, ↓Nat.reduceLT, ↓Nat.reduceLeDiff, ↓Int.reduceEq, ↓Int.reduceLT, ↓Int.reduceLE, ↓reduceIte, hI, or_true]
        · have h4' := eq_false h4
          refine dw_in (fn := Try.f25) rfl body25 (by simp) ?_
          simp -implicitDefEqProofs (maxSteps := 4000000) (disch := omega) only [go_sem, go_sem_proc, dr, Nat.min_def, ↓Nat.reduceBEq, ↓Nat.reduceEqDiff, ↓Nat.reduceLT, ↓Nat.reduceLeDiff, ↓Int.reduceEq, ↓Int.reduceLT, ↓Int.reduceLE, ↓reduceIte, h1', h2', h3', h4', or_self]
theorem badagg_spec {s : List Col} {a : AggN} (hs : s.length ≤ 20) : dw E 24 [.agg [.int .i64 a.kind, .int .i64 a.col], .pc [.sl 3 (s.map Col.pv)]] [] = some (.bool (!aggB s a), []) := by
  have hA := agg_spec (s := s) (a := a) hs
  refine dw_in (fn := Try.f24) rfl body24 (by simp) ?_
  simp -implicitDefEqProofs (maxSteps := 4000000) (disch := omega) only [go_sem, go_sem_proc, dr, Nat.min_def, ↓Nat.reduceBEq, ↓Nat.reduceEqDiff, ↓Nat.reduceLT, ↓Nat.reduceLeDiff, ↓Int.reduceEq, ↓Int.reduceLT, ↓Int.reduceLE, ↓reduceIte, hA]
def setB (s : List Col) (x : SetN) : Bool := if (!inB s x.col || (decide (x.col = 0) || !holds (s.getD x.col.toNat keyCol) x.val)) = true then false else !x.add || (decide (kindAt s x.col = 1) && !x.val.null)
theorem set_spec {s : List Col} {x : SetN} (hs : s.length ≤ 20) : dw E 41 [.agg [.sl 3 (s.map Col.pv)], .agg [.int .i64 x.col, .bool x.add, .bool x.val.null, .int .i64 x.val.kind, .int .i64 x.val.int, bl x.val.bytes]] [] = some (.bool (setB s x), []) := by
  obtain ⟨c, ad, v⟩ := x
  have hI := in_spec (s := s) (c := c) hs
  unfold setB
  dsimp only
  cases hb : inB s c with
  | false =>
    rw [hb] at hI
    refine dw_in (fn := Try.f41) rfl body41 (by simp) ?_
    simp -implicitDefEqProofs (maxSteps := 4000000) (disch := omega) only [go_sem, go_sem_proc, dr, Nat.min_def, ↓Nat.reduceBEq, ↓Nat.reduceEqDiff, ↓Nat.reduceLT, ↓Nat.reduceLeDiff, ↓Int.reduceEq, ↓Int.reduceLT, ↓Int.reduceLE, ↓reduceIte, hI, Bool.not_false, Bool.true_or]
    first | done | ((repeat' split) <;> (change _ = true; kernel_rfl))
  | true =>
    rw [hb] at hI
    by_cases h0 : c = 0
    · subst h0
      refine dw_in (fn := Try.f41) rfl body41 (by simp) ?_
      simp -implicitDefEqProofs (maxSteps := 4000000) (disch := omega) only [go_sem, go_sem_proc, dr, Nat.min_def, ↓Nat.reduceBEq, ↓Nat.reduceEqDiff, ↓Nat.reduceLT, ↓Nat.reduceLeDiff, ↓Int.reduceEq, ↓Int.reduceLT, ↓Int.reduceLE, ↓reduceIte, hI, decide_true, Bool.true_or, Bool.or_true]
      first | done | ((repeat' split) <;> (change _ = true; kernel_rfl))
    · obtain ⟨i, q, rfl, hi, hq, hk⟩ := col_at hb
      have hg : s.getD (i : Int).toNat keyCol = q := by rw [Int.toNat_natCast, List.getD_eq_getElem?_getD, hq]; rfl
      have hH := Holds_spec (nm := q.name) (ck := q.kind) (cn := q.null) (nl := v.null) (k := v.kind) (i := v.int) (o := v.bytes)
      rw [show (⟨q.name, q.kind, q.null⟩ : Col) = q from rfl, show (⟨v.null, v.kind, v.int, v.bytes⟩ : Val) = v from rfl] at hH
      have h0 := eq_false h0
      rw [hg, hk]
      cases hh : holds q v with
      | false =>
        rw [hh] at hH
        refine dw_in (fn := Try.f41) rfl body41 (by simp) ?_
        simp -implicitDefEqProofs (maxSteps := 4000000) (disch := omega) only [go_sem, go_sem_proc, dr, Nat.min_def, ↓Nat.reduceBEq, ↓Nat.reduceEqDiff, ↓Nat.reduceLT, ↓Nat.reduceLeDiff, ↓Int.reduceEq, ↓Int.reduceLT, ↓Int.reduceLE, ↓reduceIte, hI, h0, hq, hH, decide_false, Bool.not_false, Bool.or_true]
        first | done | ((repeat' split) <;> (change _ = true; kernel_rfl))
      | true =>
        rw [hh] at hH
        rcases Classical.propComplete (q.kind = 1) with hk1 | hk1 <;> cases ad <;> (refine dw_in (fn := Try.f41) rfl body41 (by simp) ?_) <;> simp -implicitDefEqProofs (maxSteps := 4000000) (disch := omega) only [go_sem, go_sem_proc, dr, Nat.min_def, ↓Nat.reduceBEq, ↓Nat.reduceEqDiff, ↓Nat.reduceLT, ↓Nat.reduceLeDiff, ↓Int.reduceEq, ↓Int.reduceLT, ↓Int.reduceLE, ↓reduceIte, hI, h0, hq, hH, hk1, decide_false, decide_true, Bool.not_false, Bool.not_true, Bool.or_true, Bool.false_or, Bool.true_or, Bool.true_and, Bool.false_and, Bool.and_true] <;> (first | done | ((repeat' split) <;> (change _ = true; kernel_rfl)))
theorem same_set {x y : SetN} : dw E 40 [.agg [.int .i64 y.col, .bool y.add, .bool y.val.null, .int .i64 y.val.kind, .int .i64 y.val.int, bl y.val.bytes], .pc [.int .i64 x.col, .bool x.add, .bool x.val.null, .int .i64 x.val.kind, .int .i64 x.val.int, bl x.val.bytes]] [] = some (.bool (decide (y.col = x.col)), []) := by
  refine dw_in (fn := Try.f40) rfl body40 (by simp) ?_
  simp -implicitDefEqProofs (maxSteps := 4000000) (disch := omega) only [go_sem, go_sem_proc, dr, Nat.min_def, ↓Nat.reduceBEq, ↓Nat.reduceEqDiff, ↓Nat.reduceLT, ↓Nat.reduceLeDiff, ↓Int.reduceEq, ↓Int.reduceLT, ↓Int.reduceLE, ↓reduceIte]
end Go.Proofs.Ytgbeijemcojnpaa.D
