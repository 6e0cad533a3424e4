/- One form as the document says it: Norm and Key. -/
import Derived.Test.YtljjgccgmloajaaRNorm2
namespace Go.Proofs.Ytljjgccgmloajaa.D
open Go Go.Den
set_option linter.unusedSimpArgs false
set_option linter.unusedVariables false
set_option maxRecDepth 20000
set_option maxHeartbeats 8000000
def refAnd (c : Cj) : Prd := .mk 4 0 0 valZ c.1 c.2
def refOr (A : Al) : Prd := .mk 5 0 0 valZ true (A.map refAnd)
theorem refAnd_pv (c : Cj) : (refAnd c).pv = [.int .i64 4, .int .i64 0, .int .i64 0, .bool false, .int .i64 0, .int .i64 0, .nils, pl c.1 c.2] := by rw [refAnd, pv_mk]; rfl
theorem in_Sm {m : Nat} {p : Prd} (hp : Sm p) (hw : RW m p) (not : Bool) : Sm (inN not p) := by
  induction p using Prd.ind generalizing not with
  | h k c o v n l ih =>
    have hp' := hp
    obtain ⟨hb, hl, hq⟩ := hp
    obtain ⟨hk, w2, w3, w6, hw⟩ := hw
    have ih := fun q hm => ih q hm (hq q hm) (hw q hm)
    rw [in_mk]
    have z : ∀ k, Sm (.mk k 0 0 valZ true []) := fun k => .mk (by simp [bz, valZ]) (by simp) (by simp)
    split
    · cases not <;> exact z _
    split
    · cases l with
      | nil => exact z _
      | cons q r => exact ih q List.mem_cons_self _
    split
    · exact .mk hb hl hq
    split
    · cases not
      · exact .mk hb hl hq
      · exact .mk (by simp [bz, valZ]) (by simp) (fun q h => by simp at h; subst h; exact .mk hb hl hq)
    · refine .mk (by simp [bz, valZ]) (by rw [List.length_map]; exact hl) fun q h => ?_
      obtain ⟨x, hx, rfl⟩ := List.mem_map.1 h
      exact ih x hx not
theorem RNorm_no {m : Nat} {p : Prd} (hp : Sm p) (hw : RW m p) (h : waysN (inN false p) = none) : dw E 8 [.agg [.int .i64 p.kind, .int .i64 p.col, .int .i64 p.op, .bool p.val.null, .int .i64 p.val.kind, .int .i64 p.val.int, bl p.val.bytes, pl p.nil p.list]] [] =
    some (.tup [.agg [.int .i64 0, .int .i64 0, .int .i64 0, .bool false, .int .i64 0, .int .i64 0, .nils, .nils], .bool false], []) := by
  obtain ⟨lf, hlf, hin⟩ := inwards_spec hp hw false
  have hwy := ways_spec (in_Sm hp hw false)
  rw [h] at hwy
  simp only [wayPV] at hwy
  generalize inN false p = q at hlf hin hwy
  rcases hlf with rfl | ⟨hne, rfl⟩
  · refine dw_in (fn := Try.f8) rfl body8 (by simp) ?_
    simp -implicitDefEqProofs (maxSteps := 4000000) (disch := omega) only [go_sem, go_sem_proc, dr, Nat.min_def, ↓Nat.reduceBEq, ↓Nat.reduceEqDiff, ↓Nat.reduceLT, ↓Nat.reduceLeDiff, ↓Int.reduceEq, ↓Int.reduceLT, ↓Int.reduceLE, ↓reduceIte, hin, hwy]
  · rw [LfR_pl hne] at hwy
    refine dw_in (fn := Try.f8) rfl body8 (by simp) ?_
    simp -implicitDefEqProofs (maxSteps := 4000000) (disch := omega) only [go_sem, go_sem_proc, dr, Nat.min_def, ↓Nat.reduceBEq, ↓Nat.reduceEqDiff, ↓Nat.reduceLT, ↓Nat.reduceLeDiff, ↓Int.reduceEq, ↓Int.reduceLT, ↓Int.reduceLE, ↓reduceIte, hin, hwy]
def RnLeaf (A : Al) : PV := if A = [] then .nils else .nr 32 8 ((A.map refAnd).map Prd.pv)
theorem RNorm_yes {m : Nat} {p : Prd} {A : Al} (hp : Sm p) (hw : RW m p) (h : waysN (inN false p) = some A) : dw E 8 [.agg [.int .i64 p.kind, .int .i64 p.col, .int .i64 p.op, .bool p.val.null, .int .i64 p.val.kind, .int .i64 p.val.int, bl p.val.bytes, pl p.nil p.list]] [] =
    some (.tup [.agg [.int .i64 5, .int .i64 0, .int .i64 0, .bool false, .int .i64 0, .int .i64 0, .nils, RnLeaf A], .bool true], []) := by
  obtain ⟨lf, hlf, hin⟩ := inwards_spec hp hw false
  have hwy := ways_spec (in_Sm hp hw false)
  obtain ⟨hA, _⟩ := ways_wb A h
  rw [h] at hwy
  simp only [wayPV] at hwy
  have go : ∀ (q : Prd) (lf ll : PV), dw E 20 [.agg [.int .i64 p.kind, .int .i64 p.col, .int .i64 p.op, .bool p.val.null, .int .i64 p.val.kind, .int .i64 p.val.int, bl p.val.bytes, pl p.nil p.list], .bool false] [] = some (.agg [.int .i64 q.kind, .int .i64 q.col, .int .i64 q.op, .bool q.val.null, .int .i64 q.val.kind, .int .i64 q.val.int, bl q.val.bytes, lf], []) →
      (lf = pl q.nil q.list ∨ lf = .nr 32 8 (q.list.map Prd.pv)) → (lf = pl q.nil q.list → ll = pl q.nil q.list) → (lf = .nr 32 8 (q.list.map Prd.pv) → ll = .sl 8 (q.list.map Prd.pv)) →
      dw E 19 [.agg [.int .i64 q.kind, .int .i64 q.col, .int .i64 q.op, .bool q.val.null, .int .i64 q.val.kind, .int .i64 q.val.int, bl q.val.bytes, ll]] [] = some (.tup [.nr 30 1 (A.map cv), .bool true], []) →
      dw E 8 [.agg [.int .i64 p.kind, .int .i64 p.col, .int .i64 p.op, .bool p.val.null, .int .i64 p.val.kind, .int .i64 p.val.int, bl p.val.bytes, pl p.nil p.list]] [] = some (.tup [.agg [.int .i64 5, .int .i64 0, .int .i64 0, .bool false, .int .i64 0, .int .i64 0, .nils, RnLeaf A], .bool true], []) := by
    intro q lf ll hin hlf h1 h2 hwy
    refine dw_in (fn := Try.f8) rfl body8 (by simp) ?_
    rcases hlf with rfl | rfl
    · have e := h1 rfl
      subst e
      clear h1 h2
      simp -implicitDefEqProofs (maxSteps := 4000000) (disch := omega) only [go_sem, go_sem_proc, dr, Nat.min_def, ↓Nat.reduceBEq, ↓Nat.reduceEqDiff, ↓Nat.reduceLT, ↓Nat.reduceLeDiff, ↓Int.reduceEq, ↓Int.reduceLT, ↓Int.reduceLE, ↓reduceIte, hin, hwy]
      refine runs_for (fun i : Nat => (⟨[(2, .pb 1048578 0), (4, .h 2097408), (6, .pb 1048582 0), (7, .int .i64 i)],
        (1048578, some ⟨true, .box [.int .i64 0, .int .i64 0, .int .i64 0, .bool false, .int .i64 0, .int .i64 0, .nils, .nils]⟩) :: (2097408, some ⟨true, .row 30 1 (A.map cv)⟩) ::
        (1048582, some ⟨true, .box [.int .i64 5, .int .i64 0, .int .i64 0, .bool false, .int .i64 0, .int .i64 0, .nils, match i with | 0 => .nils | _ + 1 => .h 2097543]⟩) ::
        (match i with | 0 => [] | j + 1 => [(2097543, some ⟨true, .row 32 8 (((A.take (j + 1)).map refAnd).map Prd.pv)⟩)]), 1⟩ : St)) A.length ?_ ?_ ?_
      · simp -implicitDefEqProofs (maxSteps := 4000000) (disch := omega) only [go_sem, go_sem_proc, dr, Nat.min_def, ↓Nat.reduceBEq, ↓Nat.reduceEqDiff, ↓Nat.reduceLT, ↓Nat.reduceLeDiff, ↓Int.reduceEq, ↓Int.reduceLT, ↓Int.reduceLE, ↓reduceIte]
      · intro i hi
        obtain ⟨c, hc, _, ht⟩ := take_get hi
        rcases i with _ | j
        · simp -implicitDefEqProofs (maxSteps := 4000000) (disch := omega) only [go_sem, go_sem_proc, dr, Nat.min_def, ↓Nat.reduceBEq, ↓Nat.reduceEqDiff, ↓Nat.reduceLT, ↓Nat.reduceLeDiff, ↓Int.reduceEq, ↓Int.reduceLT, ↓Int.reduceLE, ↓reduceIte, hc, cv, ht, refAnd_pv]
          first | done | ((repeat' split) <;> (change _ = true; kernel_rfl)) | (refine ⟨by ((repeat' split) <;> (change _ = true; kernel_rfl)), ?_⟩; rfl)
        · simp -implicitDefEqProofs (maxSteps := 4000000) (disch := omega) only [go_sem, go_sem_proc, dr, Nat.min_def, ↓Nat.reduceBEq, ↓Nat.reduceEqDiff, ↓Nat.reduceLT, ↓Nat.reduceLeDiff, ↓Int.reduceEq, ↓Int.reduceLT, ↓Int.reduceLE, ↓reduceIte, hc, cv, ht, refAnd_pv, toNat_s, List.map_append, List.map_cons, List.map_nil]
          first | done | ((repeat' split) <;> (change _ = true; kernel_rfl)) | (refine ⟨by ((repeat' split) <;> (change _ = true; kernel_rfl)), ?_⟩; rfl)
      · cases A with
        | nil => simp -implicitDefEqProofs (maxSteps := 4000000) (disch := omega) only [go_sem, go_sem_proc, dr, Nat.min_def, ↓Nat.reduceBEq, ↓Nat.reduceEqDiff, ↓Nat.reduceLT, ↓Nat.reduceLeDiff, ↓Int.reduceEq, ↓Int.reduceLT, ↓Int.reduceLE, ↓reduceIte, RnLeaf]
                 first | done | rfl
        | cons a r => simp -implicitDefEqProofs (maxSteps := 4000000) (disch := omega) only [go_sem, go_sem_proc, dr, Nat.min_def, ↓Nat.reduceBEq, ↓Nat.reduceEqDiff, ↓Nat.reduceLT, ↓Nat.reduceLeDiff, ↓Int.reduceEq, ↓Int.reduceLT, ↓Int.reduceLE, ↓reduceIte, take_all, RnLeaf]
                      first | done | rfl
    · have e := h2 rfl
      subst e
      clear h1 h2
      simp -implicitDefEqProofs (maxSteps := 4000000) (disch := omega) only [go_sem, go_sem_proc, dr, Nat.min_def, ↓Nat.reduceBEq, ↓Nat.reduceEqDiff, ↓Nat.reduceLT, ↓Nat.reduceLeDiff, ↓Int.reduceEq, ↓Int.reduceLT, ↓Int.reduceLE, ↓reduceIte, hin, hwy]
      refine runs_for (fun i : Nat => (⟨[(2, .pb 1048578 0), (4, .h 2097408), (6, .pb 1048582 0), (7, .int .i64 i)],
        (1048578, some ⟨true, .box [.int .i64 0, .int .i64 0, .int .i64 0, .bool false, .int .i64 0, .int .i64 0, .nils, .nils]⟩) :: (2097408, some ⟨true, .row 30 1 (A.map cv)⟩) ::
        (1048582, some ⟨true, .box [.int .i64 5, .int .i64 0, .int .i64 0, .bool false, .int .i64 0, .int .i64 0, .nils, match i with | 0 => .nils | _ + 1 => .h 2097543]⟩) ::
        (match i with | 0 => [] | j + 1 => [(2097543, some ⟨true, .row 32 8 (((A.take (j + 1)).map refAnd).map Prd.pv)⟩)]), 1⟩ : St)) A.length ?_ ?_ ?_
      · simp -implicitDefEqProofs (maxSteps := 4000000) (disch := omega) only [go_sem, go_sem_proc, dr, Nat.min_def, ↓Nat.reduceBEq, ↓Nat.reduceEqDiff, ↓Nat.reduceLT, ↓Nat.reduceLeDiff, ↓Int.reduceEq, ↓Int.reduceLT, ↓Int.reduceLE, ↓reduceIte]
      · intro i hi
        obtain ⟨c, hc, _, ht⟩ := take_get hi
        rcases i with _ | j
        · simp -implicitDefEqProofs (maxSteps := 4000000) (disch := omega) only [go_sem, go_sem_proc, dr, Nat.min_def, ↓Nat.reduceBEq, ↓Nat.reduceEqDiff, ↓Nat.reduceLT, ↓Nat.reduceLeDiff, ↓Int.reduceEq, ↓Int.reduceLT, ↓Int.reduceLE, ↓reduceIte, hc, cv, ht, refAnd_pv]
          first | done | ((repeat' split) <;> (change _ = true; kernel_rfl)) | (refine ⟨by ((repeat' split) <;> (change _ = true; kernel_rfl)), ?_⟩; rfl)
        · simp -implicitDefEqProofs (maxSteps := 4000000) (disch := omega) only [go_sem, go_sem_proc, dr, Nat.min_def, ↓Nat.reduceBEq, ↓Nat.reduceEqDiff, ↓Nat.reduceLT, ↓Nat.reduceLeDiff, ↓Int.reduceEq, ↓Int.reduceLT, ↓Int.reduceLE, ↓reduceIte, hc, cv, ht, refAnd_pv, toNat_s, List.map_append, List.map_cons, List.map_nil]
          first | done | ((repeat' split) <;> (change _ = true; kernel_rfl)) | (refine ⟨by ((repeat' split) <;> (change _ = true; kernel_rfl)), ?_⟩; rfl)
      · cases A with
        | nil => simp -implicitDefEqProofs (maxSteps := 4000000) (disch := omega) only [go_sem, go_sem_proc, dr, Nat.min_def, ↓Nat.reduceBEq, ↓Nat.reduceEqDiff, ↓Nat.reduceLT, ↓Nat.reduceLeDiff, ↓Int.reduceEq, ↓Int.reduceLT, ↓Int.reduceLE, ↓reduceIte, RnLeaf]
                 first | done | rfl
        | cons a r => simp -implicitDefEqProofs (maxSteps := 4000000) (disch := omega) only [go_sem, go_sem_proc, dr, Nat.min_def, ↓Nat.reduceBEq, ↓Nat.reduceEqDiff, ↓Nat.reduceLT, ↓Nat.reduceLeDiff, ↓Int.reduceEq, ↓Int.reduceLT, ↓Int.reduceLE, ↓reduceIte, take_all, RnLeaf]
                      first | done | rfl
  generalize inN false p = q at hlf hin hwy
  rcases hlf with rfl | ⟨hne, rfl⟩
  · exact go q _ (pl q.nil q.list) hin (.inl rfl) (fun _ => rfl) (fun e => by rcases pl_cases q.nil q.list with ⟨h, _⟩ | h <;> rw [h] at e <;> cases e) hwy
  · rw [LfR_pl hne] at hwy
    exact go q _ (.sl 8 (q.list.map Prd.pv)) hin (.inr rfl) (fun e => by rw [LfR_pl hne] at e; cases e) (fun _ => rfl) hwy
end Go.Proofs.Ytljjgccgmloajaa.D
