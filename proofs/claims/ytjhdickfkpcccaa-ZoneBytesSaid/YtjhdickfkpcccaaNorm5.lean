/- One form: several, and any predicate. -/
import Derived.Test.YtjhdickfkpcccaaNorm4
namespace Go.Proofs.Ytjhdickfkpcccaa.D
open Go Go.Den
set_option linter.unusedSimpArgs false
set_option linter.unusedVariables false
set_option maxRecDepth 20000
set_option maxHeartbeats 4000000
theorem both_spec {la lb : PV} {A B : Al} {a b : Bool} {n m : Nat} (ha : IsL la A) (hb : IsL lb B) (gA : Gd n (A, a)) (gB : Gd m (B, b)) (hn : n ≤ 1000000) (hm : m ≤ 1000000) :
    ∃ lf, IsR lf (bothN (A, a) (B, b)).1 ∧ dw E 40 [.agg [la, .bool a], .agg [lb, .bool b]] [] = some (.agg [lf, .bool (bothN (A, a) (B, b)).2], []) := by
  have h1 : A.length ≤ n := gA.len
  have h2 : B.length ≤ m := gB.len
  unfold bothN
  by_cases hab : (a && b) = true
  · by_cases hp : (A.length : Int) * B.length ≤ 32
    · simp only [hab, hp, decide_true, Bool.and_self, if_true]
      simp only [Bool.and_eq_true] at hab
      obtain ⟨rfl, rfl⟩ := hab
      exact ⟨_, .inr rfl, both_yes ha hb (gA.ok rfl) (gB.ok rfl) (by omega) (by omega) hp⟩
    · simp only [hab, hp, decide_false, Bool.and_false, Bool.false_eq_true, if_false]
      simp only [Bool.and_eq_true] at hab
      obtain ⟨rfl, rfl⟩ := hab
      exact ⟨_, .inl ⟨rfl, rfl⟩, both_many ha hb (by omega) (by omega) (by omega)⟩
  · have hab : (a && b) = false := by simpa using hab
    simp only [hab, Bool.false_and, Bool.false_eq_true, if_false]
    exact ⟨_, .inl ⟨rfl, rfl⟩, both_no ha hb hab⟩
def lstN (all not : Bool) (l : List Prd) (i : Nat) : Al × Bool := listN all ((l.take i).map (formN not))
theorem lst_zero (all not : Bool) (l : List Prd) : lstN all not l 0 = if all then ([(true, [])], true) else ([], true) := by unfold lstN listN; rfl
theorem lst_full (all not : Bool) (l : List Prd) : lstN all not l l.length = listN all (l.map (formN not)) := by unfold lstN; rw [List.take_length]
theorem lst_succ {all not : Bool} {l : List Prd} {i : Nat} {q : Prd} (h : l.take (i + 1) = l.take i ++ [q]) : lstN all not l (i + 1) = if all then bothN (lstN all not l i) (formN not q) else eitherN (lstN all not l i) (formN not q) := by
  unfold lstN; rw [h, List.map_append, List.map_cons, List.map_nil, listN_snoc]
theorem cnts_take (l : List Prd) (i : Nat) : cnts (l.take i) ≤ cnts l := by
  have h : cnts l = cnts (l.take i) + cnts (l.drop i) := by rw [← cnts_append, List.take_append_drop]
  omega
theorem lst_Gd {all not : Bool} {l : List Prd} (hp : ∀ q ∈ l, Sm q) (i : Nat) : Gd (33 * (1 + cnts l)) (lstN all not l i) :=
  (Gd.list (all := all) (l.take i) fun q hq => form_Gd (hp q (List.mem_of_mem_take hq)) not).mono (by have := cnts_take l i; omega)
theorem nlist_spec {n : Bool} {l : List Prd} {all not : Bool} (hl : l.length ≤ 1000000) (hp : ∀ q ∈ l, Sm q) (hc : cnts l ≤ 10000)
    (ih : ∀ q ∈ l, ∃ lf, IsR lf (formN not q).1 ∧ dw E 18 [.agg [.int .i64 q.kind, .int .i64 q.col, .int .i64 q.op, .bool q.val.null, .int .i64 q.val.kind, .int .i64 q.val.int, bl q.val.bytes, pl q.nil q.list], .bool not] [] = some (.agg [lf, .bool (formN not q).2], [])) :
    dw E 33 [pl n l, .bool all, .bool not] [] = some (.agg [.nr 39 1 ((listN all (l.map (formN not))).1.map cv), .bool (listN all (l.map (formN not))).2], []) := by
  refine dw_in (fn := Try.f33) rfl body33 (by simp) ?_
  rw [← lst_full]
  cases all with
  | true =>
    simp -implicitDefEqProofs (maxSteps := 4000000) (disch := omega) only [go_sem, go_sem_proc, dr, Nat.min_def, ↓Nat.reduceBEq, ↓Nat.reduceEqDiff, ↓Nat.reduceLT, ↓Nat.reduceLeDiff, ↓Int.reduceEq, ↓Int.reduceLT, ↓Int.reduceLE, ↓reduceIte, never_spec, always_spec]
    refine runs_for (fun i : Nat => (⟨[(1, .bool true), (2, .bool not), (6, .pb 1048582 0), (7, .pb 1048583 0), (14, pl n l), (15, .int .i64 l.length), (16, .int .i64 i)],
      [(1048582, some ⟨true, .box [.nils, .bool false]⟩), (1048583, some ⟨true, .box [.h 2097600, .bool (lstN true not l i).2]⟩), (2097600, some ⟨true, .row 39 1 ((lstN true not l i).1.map cv)⟩)], 1⟩ : St)) l.length ?_ ?_ ?_
    · simp -implicitDefEqProofs (maxSteps := 4000000) (disch := omega) only [go_sem, go_sem_proc, dr, Nat.min_def, ↓Nat.reduceBEq, ↓Nat.reduceEqDiff, ↓Nat.reduceLT, ↓Nat.reduceLeDiff, ↓Int.reduceEq, ↓Int.reduceLT, ↓Int.reduceLE, ↓reduceIte, lst_zero]
      first | done | rfl
    · intro i hi
      obtain ⟨q, hq, hqm, ht⟩ := take_get hi
      obtain ⟨lf, hlf, hof⟩ := ih q hqm
      have hs := lst_succ (all := true) (not := not) ht
      have g1 := lst_Gd (all := true) (not := not) hp i
      have g2 := form_Gd (hp q hqm) not
      have hcq := cnts_mem hqm
      simp only [Bool.false_eq_true, if_false, if_true] at hs
      rw [hs]
      generalize lstN true not l i = X at g1 hs ⊢
      obtain ⟨A, a⟩ := X
      generalize formN not q = Y at g2 hs hlf hof ⊢
      obtain ⟨B, b⟩ := Y
      rcases hlf with ⟨rfl, hB⟩ | rfl
      · dsimp only at hB
        subst hB
        obtain ⟨lf2, hlf2, hb⟩ := both_spec (la := .sl 1 (A.map cv)) (lb := .nils) (.inr rfl) (.inl ⟨rfl, rfl⟩) g1 g2 (by omega) (by omega)
        rcases hlf2 with ⟨rfl, hA2⟩ | rfl
        · simp -implicitDefEqProofs (maxSteps := 4000000) (disch := omega) only [go_sem, go_sem_proc, dr, Nat.min_def, ↓Nat.reduceBEq, ↓Nat.reduceEqDiff, ↓Nat.reduceLT, ↓Nat.reduceLeDiff, ↓Int.reduceEq, ↓Int.reduceLT, ↓Int.reduceLE, ↓reduceIte, hq, pl_get hi, pv_eq, hof, hb, hA2]
        · simp -implicitDefEqProofs (maxSteps := 4000000) (disch := omega) only [go_sem, go_sem_proc, dr, Nat.min_def, ↓Nat.reduceBEq, ↓Nat.reduceEqDiff, ↓Nat.reduceLT, ↓Nat.reduceLeDiff, ↓Int.reduceEq, ↓Int.reduceLT, ↓Int.reduceLE, ↓reduceIte, hq, pl_get hi, pv_eq, hof, hb]
      · obtain ⟨lf2, hlf2, hb⟩ := both_spec (la := .sl 1 (A.map cv)) (lb := .sl 1 (B.map cv)) (.inr rfl) (.inr rfl) g1 g2 (by omega) (by omega)
        rcases hlf2 with ⟨rfl, hA2⟩ | rfl
        · simp -implicitDefEqProofs (maxSteps := 4000000) (disch := omega) only [go_sem, go_sem_proc, dr, Nat.min_def, ↓Nat.reduceBEq, ↓Nat.reduceEqDiff, ↓Nat.reduceLT, ↓Nat.reduceLeDiff, ↓Int.reduceEq, ↓Int.reduceLT, ↓Int.reduceLE, ↓reduceIte, hq, pl_get hi, pv_eq, hof, hb, hA2]
        · simp -implicitDefEqProofs (maxSteps := 4000000) (disch := omega) only [go_sem, go_sem_proc, dr, Nat.min_def, ↓Nat.reduceBEq, ↓Nat.reduceEqDiff, ↓Nat.reduceLT, ↓Nat.reduceLeDiff, ↓Int.reduceEq, ↓Int.reduceLT, ↓Int.reduceLE, ↓reduceIte, hq, pl_get hi, pv_eq, hof, hb]
    · simp -implicitDefEqProofs (maxSteps := 4000000) (disch := omega) only [go_sem, go_sem_proc, dr, Nat.min_def, ↓Nat.reduceBEq, ↓Nat.reduceEqDiff, ↓Nat.reduceLT, ↓Nat.reduceLeDiff, ↓Int.reduceEq, ↓Int.reduceLT, ↓Int.reduceLE, ↓reduceIte]
  | false =>
    simp -implicitDefEqProofs (maxSteps := 4000000) (disch := omega) only [go_sem, go_sem_proc, dr, Nat.min_def, ↓Nat.reduceBEq, ↓Nat.reduceEqDiff, ↓Nat.reduceLT, ↓Nat.reduceLeDiff, ↓Int.reduceEq, ↓Int.reduceLT, ↓Int.reduceLE, ↓reduceIte, never_spec, always_spec]
    refine runs_for (fun i : Nat => (⟨[(1, .bool false), (2, .bool not), (6, .pb 1048582 0), (7, .pb 1048583 0), (14, pl n l), (15, .int .i64 l.length), (16, .int .i64 i)],
      [(1048582, some ⟨true, .box [.nils, .bool false]⟩), (1048583, some ⟨true, .box [.h 2097600, .bool (lstN false not l i).2]⟩), (2097600, some ⟨true, .row 39 1 ((lstN false not l i).1.map cv)⟩)], 1⟩ : St)) l.length ?_ ?_ ?_
    · simp -implicitDefEqProofs (maxSteps := 4000000) (disch := omega) only [go_sem, go_sem_proc, dr, Nat.min_def, ↓Nat.reduceBEq, ↓Nat.reduceEqDiff, ↓Nat.reduceLT, ↓Nat.reduceLeDiff, ↓Int.reduceEq, ↓Int.reduceLT, ↓Int.reduceLE, ↓reduceIte, lst_zero]
      first | done | rfl
    · intro i hi
      obtain ⟨q, hq, hqm, ht⟩ := take_get hi
      obtain ⟨lf, hlf, hof⟩ := ih q hqm
      have hs := lst_succ (all := false) (not := not) ht
      have g1 := lst_Gd (all := false) (not := not) hp i
      have g2 := form_Gd (hp q hqm) not
      have hcq := cnts_mem hqm
      simp only [Bool.false_eq_true, if_false, if_true] at hs
      rw [hs]
      generalize lstN false not l i = X at g1 hs ⊢
      obtain ⟨A, a⟩ := X
      generalize formN not q = Y at g2 hs hlf hof ⊢
      obtain ⟨B, b⟩ := Y
      rcases hlf with ⟨rfl, hB⟩ | rfl
      · dsimp only at hB
        subst hB
        have hb := either_spec (a := a) (b := b) (la := .sl 1 (A.map cv)) (lb := .nils) (.inr rfl) (.inl ⟨rfl, rfl⟩) (by rw [List.length_append]; have := g1.len; have := g2.len; dsimp only at *; omega)
        simp -implicitDefEqProofs (maxSteps := 4000000) (disch := omega) only [go_sem, go_sem_proc, dr, Nat.min_def, ↓Nat.reduceBEq, ↓Nat.reduceEqDiff, ↓Nat.reduceLT, ↓Nat.reduceLeDiff, ↓Int.reduceEq, ↓Int.reduceLT, ↓Int.reduceLE, ↓reduceIte, hq, pl_get hi, pv_eq, hof, hb, eitherN]
      · have hb := either_spec (a := a) (b := b) (la := .sl 1 (A.map cv)) (lb := .sl 1 (B.map cv)) (.inr rfl) (.inr rfl) (by rw [List.length_append]; have := g1.len; have := g2.len; dsimp only at *; omega)
        simp -implicitDefEqProofs (maxSteps := 4000000) (disch := omega) only [go_sem, go_sem_proc, dr, Nat.min_def, ↓Nat.reduceBEq, ↓Nat.reduceEqDiff, ↓Nat.reduceLT, ↓Nat.reduceLeDiff, ↓Int.reduceEq, ↓Int.reduceLT, ↓Int.reduceLE, ↓reduceIte, hq, pl_get hi, pv_eq, hof, hb, eitherN]
    · simp -implicitDefEqProofs (maxSteps := 4000000) (disch := omega) only [go_sem, go_sem_proc, dr, Nat.min_def, ↓Nat.reduceBEq, ↓Nat.reduceEqDiff, ↓Nat.reduceLT, ↓Nat.reduceLeDiff, ↓Int.reduceEq, ↓Int.reduceLT, ↓Int.reduceLE, ↓reduceIte]

end Go.Proofs.Ytjhdickfkpcccaa.D
