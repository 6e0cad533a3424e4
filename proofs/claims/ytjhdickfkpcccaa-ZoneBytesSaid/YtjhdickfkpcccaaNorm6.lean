/- One form: any predicate's; its key. -/
import Derived.Test.YtjhdickfkpcccaaNorm5
namespace Go.Proofs.Ytjhdickfkpcccaa.D
open Go Go.Den
set_option linter.unusedSimpArgs false
set_option linter.unusedVariables false
set_option maxRecDepth 20000
set_option maxHeartbeats 4000000
theorem cv_one (p : Prd) : cv (false, [p]) = [.sl 8 [p.pv]] := rfl
theorem of_spec {p : Prd} (hp : Sm p) (hc : cnt p ≤ 10000) (not : Bool) : ∃ lf, IsR lf (formN not p).1 ∧ dw E 18 [.agg [.int .i64 p.kind, .int .i64 p.col, .int .i64 p.op, .bool p.val.null, .int .i64 p.val.kind, .int .i64 p.val.int, bl p.val.bytes, pl p.nil p.list], .bool not] [] = some (.agg [lf, .bool (formN not p).2], []) := by
  induction p using Prd.ind generalizing not with
  | h k c o v n l ih =>
    have hpS := hp
    obtain ⟨hb, hl, hq⟩ := hp
    rw [cnt_mk] at hc
    have ih := fun q hm not => ih q hm (hq q hm) (by have := cnts_mem hm; omega) not
    rw [form_mk]
    simp only [Prd.kind, Prd.col, Prd.op, Prd.val, Prd.nil, Prd.list]
    by_cases h1 : k = 1
    · subst h1
      simp only [if_true]
      cases not
      · refine ⟨_, .inr rfl, ?_⟩
        refine dw_in (fn := Try.f18) rfl body18 (by simp) ?_
        simp -implicitDefEqProofs (maxSteps := 4000000) (disch := omega) only [go_sem, go_sem_proc, dr, Nat.min_def, ↓Nat.reduceBEq, ↓Nat.reduceEqDiff, ↓Nat.reduceLT, ↓Nat.reduceLeDiff, ↓Int.reduceEq, ↓Int.reduceLT, ↓Int.reduceLE, ↓reduceIte, always_spec]
        rfl
      · refine ⟨_, .inl ⟨rfl, rfl⟩, ?_⟩
        refine dw_in (fn := Try.f18) rfl body18 (by simp) ?_
        simp -implicitDefEqProofs (maxSteps := 4000000) (disch := omega) only [go_sem, go_sem_proc, dr, Nat.min_def, ↓Nat.reduceBEq, ↓Nat.reduceEqDiff, ↓Nat.reduceLT, ↓Nat.reduceLeDiff, ↓Int.reduceEq, ↓Int.reduceLT, ↓Int.reduceLE, ↓reduceIte, never_spec]
    by_cases h2 : k = 2
    · subst h2
      refine ⟨_, .inr rfl, ?_⟩
      have ho : ∀ o', dw E 31 [.agg [.int .i64 2, .int .i64 c, .int .i64 o', .bool v.null, .int .i64 v.kind, .int .i64 v.int, bl v.bytes, pl n l]] [] = some (.agg [.nr 39 1 [[.sl 8 [(Prd.mk 2 c o' v n l).still.pv]]], .bool true], []) := fun o' => by
        have := nOne_spec (p := .mk 2 c o' v n l) (.mk hb hl hq)
        simpa only [Prd.kind, Prd.col, Prd.op, Prd.val, Prd.nil, Prd.list] using this
      refine dw_in (fn := Try.f18) rfl body18 (by simp) ?_
      cases not
      · simp -implicitDefEqProofs (maxSteps := 4000000) (disch := omega) only [go_sem, go_sem_proc, dr, Nat.min_def, ↓Nat.reduceBEq, ↓Nat.reduceEqDiff, ↓Nat.reduceLT, ↓Nat.reduceLeDiff, ↓Int.reduceEq, ↓Int.reduceLT, ↓Int.reduceLE, ↓reduceIte, ho, cv_one]
        first | done | rfl
      · simp -implicitDefEqProofs (maxSteps := 4000000) (disch := omega) only [go_sem, go_sem_proc, dr, Nat.min_def, ↓Nat.reduceBEq, ↓Nat.reduceEqDiff, ↓Nat.reduceLT, ↓Nat.reduceLeDiff, ↓Int.reduceEq, ↓Int.reduceLT, ↓Int.reduceLE, ↓reduceIte, ho, other_spec, cv_one]
        first | done | rfl
    by_cases h3 : k = 3
    · subst h3
      refine ⟨_, .inr rfl, ?_⟩
      refine dw_in (fn := Try.f18) rfl body18 (by simp) ?_
      cases not
      · have ho := nOne_spec (p := .mk 3 c o v n l) hpS
        simp only [Prd.kind, Prd.col, Prd.op, Prd.val, Prd.nil, Prd.list] at ho
        simp -implicitDefEqProofs (maxSteps := 4000000) (disch := omega) only [go_sem, go_sem_proc, dr, Nat.min_def, ↓Nat.reduceBEq, ↓Nat.reduceEqDiff, ↓Nat.reduceLT, ↓Nat.reduceLeDiff, ↓Int.reduceEq, ↓Int.reduceLT, ↓Int.reduceLE, ↓reduceIte, ho, cv_one]
        first | done | rfl
      · have hn := Not_spec hpS
        have ho := nOne_spec (notP_Sm hpS)
        simp only [notP, Prd.kind, Prd.col, Prd.op, Prd.val, Prd.nil, Prd.list, valZ, bl_none, pl_false, List.map_cons, List.map_nil] at hn ho
        simp -implicitDefEqProofs (maxSteps := 4000000) (disch := omega) only [go_sem, go_sem_proc, dr, Nat.min_def, ↓Nat.reduceBEq, ↓Nat.reduceEqDiff, ↓Nat.reduceLT, ↓Nat.reduceLeDiff, ↓Int.reduceEq, ↓Int.reduceLT, ↓Int.reduceLE, ↓reduceIte, hn, ho, cv_one]
        first | done | rfl
    by_cases h4 : k = 4
    · subst h4
      refine ⟨_, .inr rfl, ?_⟩
      refine dw_in (fn := Try.f18) rfl body18 (by simp) ?_
      have hL := nlist_spec (n := n) (all := !not) hl hq (by omega) (fun q hm => ih q hm not)
      cases not
      · simp only [Bool.not_false] at hL
        simp -implicitDefEqProofs (maxSteps := 4000000) (disch := omega) only [go_sem, go_sem_proc, dr, Nat.min_def, ↓Nat.reduceBEq, ↓Nat.reduceEqDiff, ↓Nat.reduceLT, ↓Nat.reduceLeDiff, ↓Int.reduceEq, ↓Int.reduceLT, ↓Int.reduceLE, ↓reduceIte, hL]
      · simp only [Bool.not_true] at hL
        simp -implicitDefEqProofs (maxSteps := 4000000) (disch := omega) only [go_sem, go_sem_proc, dr, Nat.min_def, ↓Nat.reduceBEq, ↓Nat.reduceEqDiff, ↓Nat.reduceLT, ↓Nat.reduceLeDiff, ↓Int.reduceEq, ↓Int.reduceLT, ↓Int.reduceLE, ↓reduceIte, hL]
    by_cases h5 : k = 5
    · subst h5
      refine ⟨_, .inr rfl, ?_⟩
      refine dw_in (fn := Try.f18) rfl body18 (by simp) ?_
      have hL := nlist_spec (n := n) (all := not) hl hq (by omega) (fun q hm => ih q hm not)
      simp -implicitDefEqProofs (maxSteps := 4000000) (disch := omega) only [go_sem, go_sem_proc, dr, Nat.min_def, ↓Nat.reduceBEq, ↓Nat.reduceEqDiff, ↓Nat.reduceLT, ↓Nat.reduceLeDiff, ↓Int.reduceEq, ↓Int.reduceLT, ↓Int.reduceLE, ↓reduceIte, hL]
    by_cases h6 : k = 6
    · subst h6
      cases l with
      | nil =>
        refine ⟨_, .inl ⟨rfl, rfl⟩, ?_⟩
        refine dw_in (fn := Try.f18) rfl body18 (by simp) ?_
        simp -implicitDefEqProofs (maxSteps := 4000000) (disch := omega) only [go_sem, go_sem_proc, dr, Nat.min_def, ↓Nat.reduceBEq, ↓Nat.reduceEqDiff, ↓Nat.reduceLT, ↓Nat.reduceLeDiff, ↓Int.reduceEq, ↓Int.reduceLT, ↓Int.reduceLE, ↓reduceIte]
        first | done | rfl
      | cons q r =>
        obtain ⟨lf, hlf, hof⟩ := ih q List.mem_cons_self (!not)
        simp only [Int.reduceEq, if_false, if_true]
        rcases hlf with ⟨rfl, hB⟩ | rfl
        · refine ⟨_, .inl ⟨rfl, hB⟩, ?_⟩
          refine dw_in (fn := Try.f18) rfl body18 (by simp) ?_
          cases not
          · simp only [Bool.not_false] at hof
            simp -implicitDefEqProofs (maxSteps := 4000000) (disch := omega) only [go_sem, go_sem_proc, dr, Nat.min_def, ↓Nat.reduceBEq, ↓Nat.reduceEqDiff, ↓Nat.reduceLT, ↓Nat.reduceLeDiff, ↓Int.reduceEq, ↓Int.reduceLT, ↓Int.reduceLE, ↓reduceIte, pl_some, pv_eq, hof]
          · simp only [Bool.not_true] at hof
            simp -implicitDefEqProofs (maxSteps := 4000000) (disch := omega) only [go_sem, go_sem_proc, dr, Nat.min_def, ↓Nat.reduceBEq, ↓Nat.reduceEqDiff, ↓Nat.reduceLT, ↓Nat.reduceLeDiff, ↓Int.reduceEq, ↓Int.reduceLT, ↓Int.reduceLE, ↓reduceIte, pl_some, pv_eq, hof]
        · refine ⟨_, .inr rfl, ?_⟩
          refine dw_in (fn := Try.f18) rfl body18 (by simp) ?_
          cases not
          · simp only [Bool.not_false] at hof
            simp -implicitDefEqProofs (maxSteps := 4000000) (disch := omega) only [go_sem, go_sem_proc, dr, Nat.min_def, ↓Nat.reduceBEq, ↓Nat.reduceEqDiff, ↓Nat.reduceLT, ↓Nat.reduceLeDiff, ↓Int.reduceEq, ↓Int.reduceLT, ↓Int.reduceLE, ↓reduceIte, pl_some, pv_eq, hof]
          · simp only [Bool.not_true] at hof
            simp -implicitDefEqProofs (maxSteps := 4000000) (disch := omega) only [go_sem, go_sem_proc, dr, Nat.min_def, ↓Nat.reduceBEq, ↓Nat.reduceEqDiff, ↓Nat.reduceLT, ↓Nat.reduceLeDiff, ↓Int.reduceEq, ↓Int.reduceLT, ↓Int.reduceLE, ↓reduceIte, pl_some, pv_eq, hof]
    · simp only [if_neg h1, if_neg h2, if_neg h3, if_neg h4, if_neg h5, if_neg h6]
      refine ⟨_, .inl ⟨rfl, rfl⟩, ?_⟩
      refine dw_in (fn := Try.f18) rfl body18 (by simp) ?_
      simp -implicitDefEqProofs (maxSteps := 4000000) (disch := omega) only [go_sem, go_sem_proc, dr, Nat.min_def, ↓Nat.reduceBEq, ↓Nat.reduceEqDiff, ↓Nat.reduceLT, ↓Nat.reduceLeDiff, ↓Int.reduceEq, ↓Int.reduceLT, ↓Int.reduceLE, ↓reduceIte, h1, h2, h3, h4, h5, h6]
end Go.Proofs.Ytjhdickfkpcccaa.D
