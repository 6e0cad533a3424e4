/- What the document says of predicates: which may be, and which are the same, at last. -/
import Derived.Test.YtgbeijemcojnpaaR6b
namespace Go.Proofs.Ytgbeijemcojnpaa.D
open Go Go.Den
set_option linter.unusedSimpArgs false
set_option linter.unusedVariables false
set_option maxRecDepth 20000
set_option maxHeartbeats 8000000
def okP (s : List Col) (p : Prd) : Bool := decide ((deepN 6 p).1 ≤ 5) && (decide ((deepN 6 p).2 ≤ 64) && rightB s p)
theorem OkPred_spec {s : List Col} {p : Prd} (hs : s.length ≤ 20) (hp : Sl p) : dw E 27 [.agg [.sl 3 (s.map Col.pv)], .agg [.int .i64 p.kind, .int .i64 p.col, .int .i64 p.op, .bool p.val.null, .int .i64 p.val.kind, .int .i64 p.val.int, bl p.val.bytes, pl p.nil p.list]] [] = some (.bool (okP s p), []) := by
  refine dw_in (fn := Try.f27) rfl body27 (by simp) ?_
  have h1 := deep_spec 6 (by decide) hp
  have h2 := right_spec hs hp
  unfold okP
  have h3 : ((6 : Nat) : Int) = 6 := rfl
  rw [h3] at h1
  generalize deepN 6 p = Z at h1 ⊢
  obtain ⟨a, b⟩ := Z
  dsimp only at h1 ⊢
  rcases Classical.propComplete (a ≤ 5) with j1 | j1 <;> rcases Classical.propComplete (b ≤ 64) with j2 | j2 <;> simp -implicitDefEqProofs (maxSteps := 4000000) only [go_sem, go_sem_proc, ↓reduceIte, Nat.min_def, h1, h2, j1, j2] <;> ((repeat' split) <;> (change _ = true; kernel_rfl))
theorem sames_step {l m : List Prd} {i : Nat} {p q : Prd} (h1 : l.drop i = p :: l.drop (i + 1)) (h2 : m.drop i = q :: m.drop (i + 1)) : Prd.sames (l.drop i) (m.drop i) = (p.same q && Prd.sames (l.drop (i + 1)) (m.drop (i + 1))) := by
  rw [h1, h2, Prd.sames]
theorem sames_len {l m : List Prd} (h : ¬ l.length = m.length) : Prd.sames l m = false := by rw [sames_eq]; simp [h]
theorem SamePred_spec {p : Prd} (hp : Sl p) : ∀ {q : Prd}, Sl q → dw E 46 [.agg [.int .i64 p.kind, .int .i64 p.col, .int .i64 p.op, .bool p.val.null, .int .i64 p.val.kind, .int .i64 p.val.int, bl p.val.bytes, pl p.nil p.list], .agg [.int .i64 q.kind, .int .i64 q.col, .int .i64 q.op, .bool q.val.null, .int .i64 q.val.kind, .int .i64 q.val.int, bl q.val.bytes, pl q.nil q.list]] [] = some (.bool (p.same q), []) := by
  induction p using Prd.ind with
  | h k c o v n l ih =>
    intro q hq
    obtain ⟨hb, hl, hp⟩ := hp
    obtain ⟨k', c', o', v', n', l'⟩ := q
    obtain ⟨hb', hl', hq⟩ := hq
    have ih := fun (x : Prd) (hm : x ∈ l) (y : Prd) (hy : y ∈ l') => ih x hm (hp x hm) (hq y hy)
    simp only [Prd.kind, Prd.col, Prd.op, Prd.val, Prd.nil, Prd.list]
    rw [Prd.same]
    have hV := SameVal_spec (nl := v.null) (ml := v'.null) (k := v.kind) (i := v.int) (l := v'.kind) (j := v'.int) (o := v.bytes) (q := v'.bytes)
    rw [show sameV ⟨v.null, v.kind, v.int, v.bytes⟩ ⟨v'.null, v'.kind, v'.int, v'.bytes⟩ = sameV v v' from rfl] at hV
    by_cases h1 : k = k'
    · subst h1
      by_cases h2 : c = c'
      · subst h2
        by_cases h3 : o = o'
        · subst h3
          cases h4 : sameV v v' with
          | false =>
            rw [h4] at hV
            refine dw_in (fn := Try.f46) rfl body46 (by simp) ?_
            simp -implicitDefEqProofs (maxSteps := 4000000) only [go_sem, go_sem_proc, ↓reduceIte, Nat.min_def, hV]
            first | done | ((repeat' split) <;> (change _ = true; kernel_rfl))
          | true =>
            rw [h4] at hV
            by_cases h5 : l.length = l'.length
            · refine dw_in (fn := Try.f46) rfl body46 (by simp) ?_
              simp -implicitDefEqProofs (maxSteps := 4000000) (disch := omega) only [go_sem, go_sem_proc, dr, Nat.min_def, ↓Nat.reduceBEq, ↓Nat.reduceEqDiff, ↓Nat.reduceLT, ↓Nat.reduceLeDiff, ↓Int.reduceEq, ↓Int.reduceLT, ↓Int.reduceLE, ↓reduceIte, hV, h5]
              refine runs_any (fun i : Nat => (⟨[(2, .pb 1048578 0), (3, .pb 1048579 0), (5, .int .i64 i)], [(1048578, some ⟨true, .box [.int .i64 k, .int .i64 c, .int .i64 o, .bool v.null, .int .i64 v.kind, .int .i64 v.int, bl v.bytes, pl n l]⟩), (1048579, some ⟨true, .box [.int .i64 k, .int .i64 c, .int .i64 o, .bool v'.null, .int .i64 v'.kind, .int .i64 v'.int, bl v'.bytes, pl n' l']⟩)], 1⟩ : St)) (fun i => l.length - i) 0
                (fun i => i ≤ l.length ∧ Prd.sames l l' = Prd.sames (l.drop i) (l'.drop i)) ⟨Nat.zero_le _, by simp⟩ ?_ ?_
              · simp -implicitDefEqProofs (maxSteps := 4000000) (disch := omega) only [go_sem, go_sem_proc, dr, Nat.min_def, ↓Nat.reduceBEq, ↓Nat.reduceEqDiff, ↓Nat.reduceLT, ↓Nat.reduceLeDiff, ↓Int.reduceEq, ↓Int.reduceLT, ↓Int.reduceLE, ↓reduceIte]
              · rintro i ⟨hi, he⟩
                by_cases hlt : i < l.length
                · obtain ⟨x, hx, hxm, _⟩ := take_get hlt
                  have hlt' : i < l'.length := by omega
                  obtain ⟨y, hy, hym, _⟩ := take_get hlt'
                  have hd : l.drop i = x :: l.drop (i + 1) := by rw [List.drop_eq_getElem_cons hlt, (List.getElem?_eq_some_iff.1 hx).2]
                  have hd' : l'.drop i = y :: l'.drop (i + 1) := by rw [List.drop_eq_getElem_cons hlt', (List.getElem?_eq_some_iff.1 hy).2]
                  rw [sames_step hd hd'] at he
                  have hev := ih x hxm y hym
                  cases hr : x.same y with
                  | true =>
                    rw [hr, Bool.true_and] at he
                    rw [hr] at hev
                    simp -implicitDefEqProofs (maxSteps := 4000000) (disch := omega) only [go_sem, go_sem_proc, dr, Nat.min_def, ↓Nat.reduceBEq, ↓Nat.reduceEqDiff, ↓Nat.reduceLT, ↓Nat.reduceLeDiff, ↓Int.reduceEq, ↓Int.reduceLT, ↓Int.reduceLE, ↓reduceIte, hx, hy, pl_get hlt, pl_get hlt', pv_eq, hev]
                    refine ⟨by ((repeat' split) <;> (change _ = true; kernel_rfl)), ?_⟩
                    exact ⟨i + 1, rfl, ⟨by omega, he⟩, by show l.length - (i + 1) < l.length - i; omega⟩
                  | false =>
                    rw [hr, Bool.false_and] at he
                    rw [hr] at hev
                    simp -implicitDefEqProofs (maxSteps := 4000000) (disch := omega) only [go_sem, go_sem_proc, dr, Nat.min_def, ↓Nat.reduceBEq, ↓Nat.reduceEqDiff, ↓Nat.reduceLT, ↓Nat.reduceLeDiff, ↓Int.reduceEq, ↓Int.reduceLT, ↓Int.reduceLE, ↓reduceIte, hx, hy, pl_get hlt, pl_get hlt', pv_eq, hev, he]
                    ((repeat' split) <;> (change _ = true; kernel_rfl))
                · have hd : l.drop i = [] := List.drop_eq_nil_of_le (by omega)
                  have hd' : l'.drop i = [] := List.drop_eq_nil_of_le (by omega)
                  rw [hd, hd', Prd.sames] at he
                  simp -implicitDefEqProofs (maxSteps := 4000000) (disch := omega) only [go_sem, go_sem_proc, dr, Nat.min_def, ↓Nat.reduceBEq, ↓Nat.reduceEqDiff, ↓Nat.reduceLT, ↓Nat.reduceLeDiff, ↓Int.reduceEq, ↓Int.reduceLT, ↓Int.reduceLE, ↓reduceIte, he]
            · rw [sames_len h5]
              have h5' := eq_false (show ¬ (l.length : Int) = (l'.length : Int) by omega)
              have h5 := eq_false h5
              refine dw_in (fn := Try.f46) rfl body46 (by simp) ?_
              simp -implicitDefEqProofs (maxSteps := 4000000) only [go_sem, go_sem_proc, ↓reduceIte, Nat.min_def, hV, h5, h5']
        · have h3 := eq_false h3
          refine dw_in (fn := Try.f46) rfl body46 (by simp) ?_
          simp -implicitDefEqProofs (maxSteps := 4000000) only [go_sem, go_sem_proc, ↓reduceIte, Nat.min_def, h3]
      · have h2 := eq_false h2
        refine dw_in (fn := Try.f46) rfl body46 (by simp) ?_
        simp -implicitDefEqProofs (maxSteps := 4000000) only [go_sem, go_sem_proc, ↓reduceIte, Nat.min_def, h2]
    · have h1 := eq_false h1
      refine dw_in (fn := Try.f46) rfl body46 (by simp) ?_
      simp -implicitDefEqProofs (maxSteps := 4000000) only [go_sem, go_sem_proc, ↓reduceIte, Nat.min_def, h1]
end Go.Proofs.Ytgbeijemcojnpaa.D
