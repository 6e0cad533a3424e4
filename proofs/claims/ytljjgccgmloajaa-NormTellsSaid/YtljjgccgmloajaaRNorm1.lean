/- One form as the document says it: nots pushed inwards. -/
import Derived.Test.YtljjgccgmloajaaNorm7
import Derived.Test.YtljjgccgmloajaaRWd
namespace Go.Proofs.Ytljjgccgmloajaa.D
open Go Go.Den
set_option linter.unusedSimpArgs false
set_option linter.unusedVariables false
set_option maxRecDepth 20000
set_option maxHeartbeats 8000000
def otherR (o : Int) : Int := if o = 1 then 2 else if o = 2 then 1 else if o = 3 then 6 else if o = 4 then 5 else if o = 5 then 4 else 3
theorem otherF_of {o : Int} (h : 1 ≤ o ∧ o ≤ 6) : otherF [.int .i64 o] = some (.int .i64 (otherR o)) := by
  rcases (show o = 1 ∨ o = 2 ∨ o = 3 ∨ o = 4 ∨ o = 5 ∨ o = 6 by omega) with rfl | rfl | rfl | rfl | rfl | rfl <;> rfl
theorem otherR_eq {o : Int} (h : 1 ≤ o ∧ o ≤ 6) : otherR o = otherN o := by
  rcases (show o = 1 ∨ o = 2 ∨ o = 3 ∨ o = 4 ∨ o = 5 ∨ o = 6 by omega) with rfl | rfl | rfl | rfl | rfl | rfl <;> rfl
def inTwo (k c o : Int) (v : Val) (n : Bool) (l : List Prd) (xs : List (Prd × Prd)) : Prd × Prd :=
  if k = 1 then (.mk 4 0 0 valZ true [], .mk 5 0 0 valZ true [])
  else if k = 6 then (match xs with | [] => (.mk 0 0 0 valZ true [], .mk 0 0 0 valZ true []) | x :: _ => (x.2, x.1))
  else if k = 2 then (.mk 2 c o v n l, .mk 2 c (otherR o) v n l)
  else if k = 3 then (.mk 3 c o v n l, .mk 6 0 0 valZ false [.mk 3 c o v n l])
  else (.mk k 0 0 valZ true (xs.map (·.1)), .mk (9 - k) 0 0 valZ true (xs.map (·.2)))
mutual
def in2 : Prd → Prd × Prd
  | .mk k c o v n l => inTwo k c o v n l (ins2 l)
def ins2 : List Prd → List (Prd × Prd)
  | [] => []
  | p :: r => in2 p :: ins2 r
end
theorem ins2_map (l : List Prd) : ins2 l = l.map in2 := by
  induction l with
  | nil => rfl
  | cons p r ih => rw [ins2, ih, List.map_cons]
def inN (not : Bool) (p : Prd) : Prd := if not then (in2 p).2 else (in2 p).1
theorem in_mk (not : Bool) (k c o : Int) (v : Val) (n : Bool) (l : List Prd) : inN not (.mk k c o v n l) =
    if k = 1 then (if not then .mk 5 0 0 valZ true [] else .mk 4 0 0 valZ true [])
    else if k = 6 then (match l with | [] => .mk 0 0 0 valZ true [] | q :: _ => inN (!not) q)
    else if k = 2 then .mk 2 c (if not then otherR o else o) v n l
    else if k = 3 then (if not then .mk 6 0 0 valZ false [.mk 3 c o v n l] else .mk 3 c o v n l)
    else .mk (if not then 9 - k else k) 0 0 valZ true (l.map (inN not)) := by
  have e : inN not = fun p => if not then (in2 p).2 else (in2 p).1 := rfl
  rw [e]
  simp only []
  rw [in2, ins2_map]
  unfold inTwo
  simp only [List.map_map]
  by_cases h1 : k = 1
  · simp only [if_pos h1]
  by_cases h6 : k = 6
  · simp only [if_neg h1, if_pos h6]
    cases l <;> cases not <;> rfl
  by_cases h2 : k = 2
  · simp only [if_neg h1, if_neg h6, if_pos h2] <;> (cases not <;> rfl)
  by_cases h3 : k = 3
  · simp only [if_neg h1, if_neg h6, if_neg h2, if_pos h3] <;> (cases not <;> rfl)
  · simp only [if_neg h1, if_neg h6, if_neg h2, if_neg h3] <;> (cases not <;> rfl)
/-- the leaf of a list that is told -/
def LfR (lf : PV) (q : Prd) : Prop := lf = pl q.nil q.list ∨ (q.list ≠ [] ∧ lf = .nr 32 8 (q.list.map Prd.pv))
theorem LfR_pl {q : Prd} (h : q.list ≠ []) : pl q.nil q.list = .sl 8 (q.list.map Prd.pv) := by
  rcases pl_cases q.nil q.list with ⟨_, h2⟩ | h2
  · exact absurd h2 h
  · exact h2
theorem mk_kind (k c o : Int) (v : Val) (n : Bool) (l : List Prd) : (Prd.mk k c o v n l).kind = k := rfl
theorem mk_col (k c o : Int) (v : Val) (n : Bool) (l : List Prd) : (Prd.mk k c o v n l).col = c := rfl
theorem mk_op (k c o : Int) (v : Val) (n : Bool) (l : List Prd) : (Prd.mk k c o v n l).op = o := rfl
theorem mk_val (k c o : Int) (v : Val) (n : Bool) (l : List Prd) : (Prd.mk k c o v n l).val = v := rfl
theorem mk_nil (k c o : Int) (v : Val) (n : Bool) (l : List Prd) : (Prd.mk k c o v n l).nil = n := rfl
theorem mk_list (k c o : Int) (v : Val) (n : Bool) (l : List Prd) : (Prd.mk k c o v n l).list = l := rfl
theorem toNat_s (j : Nat) : ((j : Int) + 1).toNat = j + 1 := by omega
theorem inwards_spec {m : Nat} {p : Prd} (hp : Sm p) (hw : RW m p) (not : Bool) : ∃ lf, LfR lf (inN not p) ∧ dw E 20 [.agg [.int .i64 p.kind, .int .i64 p.col, .int .i64 p.op, .bool p.val.null, .int .i64 p.val.kind, .int .i64 p.val.int, bl p.val.bytes, pl p.nil p.list], .bool not] [] =
    some (.agg [.int .i64 (inN not p).kind, .int .i64 (inN not p).col, .int .i64 (inN not p).op, .bool (inN not p).val.null, .int .i64 (inN not p).val.kind, .int .i64 (inN not p).val.int, bl (inN not p).val.bytes, lf], []) := by
  induction p using Prd.ind generalizing not with
  | h k c o v n l ih =>
    obtain ⟨hb, hl, hq⟩ := hp
    obtain ⟨hk, w2, w3, w6, hw⟩ := hw
    have ih := fun q hm => ih q hm (hq q hm) (hw q hm)
    rw [in_mk]
    simp only [mk_kind, mk_col, mk_op, mk_val, mk_nil, mk_list]
    by_cases h1 : k = 1
    · subst h1
      rw [if_pos rfl]
      cases not
      · refine ⟨.nils, .inl rfl, ?_⟩
        refine dw_in (fn := Try.f20) rfl body20 (by simp) ?_
        simp -implicitDefEqProofs (maxSteps := 4000000) (disch := omega) only [go_sem, go_sem_proc, dr, Nat.min_def, ↓Nat.reduceBEq, ↓Nat.reduceEqDiff, ↓Nat.reduceLT, ↓Nat.reduceLeDiff, ↓Int.reduceEq, ↓Int.reduceLT, ↓Int.reduceLE, ↓reduceIte]
        rfl
      · refine ⟨.nils, .inl rfl, ?_⟩
        refine dw_in (fn := Try.f20) rfl body20 (by simp) ?_
        simp -implicitDefEqProofs (maxSteps := 4000000) (disch := omega) only [go_sem, go_sem_proc, dr, Nat.min_def, ↓Nat.reduceBEq, ↓Nat.reduceEqDiff, ↓Nat.reduceLT, ↓Nat.reduceLeDiff, ↓Int.reduceEq, ↓Int.reduceLT, ↓Int.reduceLE, ↓reduceIte]
        rfl
    by_cases h6 : k = 6
    · subst h6
      rw [if_neg h1, if_pos rfl]
      cases l with
      | nil => exact absurd rfl (w6 rfl)
      | cons q r =>
        dsimp only
        obtain ⟨lf, hlf, hin⟩ := ih q List.mem_cons_self (!not)
        refine ⟨lf, hlf, ?_⟩
        generalize inN (!not) q = x at hlf hin ⊢
        clear w2 w3 w6
        rcases hlf with rfl | ⟨hne, rfl⟩
        · refine dw_in (fn := Try.f20) rfl body20 (by simp) ?_
          cases not
          · simp only [Bool.not_false] at hin
            simp -implicitDefEqProofs (maxSteps := 4000000) (disch := omega) only [go_sem, go_sem_proc, dr, Nat.min_def, ↓Nat.reduceBEq, ↓Nat.reduceEqDiff, ↓Nat.reduceLT, ↓Nat.reduceLeDiff, ↓Int.reduceEq, ↓Int.reduceLT, ↓Int.reduceLE, ↓reduceIte, pl_some, pv_eq, hin]
          · simp only [Bool.not_true] at hin
            simp -implicitDefEqProofs (maxSteps := 4000000) (disch := omega) only [go_sem, go_sem_proc, dr, Nat.min_def, ↓Nat.reduceBEq, ↓Nat.reduceEqDiff, ↓Nat.reduceLT, ↓Nat.reduceLeDiff, ↓Int.reduceEq, ↓Int.reduceLT, ↓Int.reduceLE, ↓reduceIte, pl_some, pv_eq, hin]
        · refine dw_in (fn := Try.f20) rfl body20 (by simp) ?_
          cases not
          · simp only [Bool.not_false] at hin
            simp -implicitDefEqProofs (maxSteps := 4000000) (disch := omega) only [go_sem, go_sem_proc, dr, Nat.min_def, ↓Nat.reduceBEq, ↓Nat.reduceEqDiff, ↓Nat.reduceLT, ↓Nat.reduceLeDiff, ↓Int.reduceEq, ↓Int.reduceLT, ↓Int.reduceLE, ↓reduceIte, pl_some, pv_eq, hin]
          · simp only [Bool.not_true] at hin
            simp -implicitDefEqProofs (maxSteps := 4000000) (disch := omega) only [go_sem, go_sem_proc, dr, Nat.min_def, ↓Nat.reduceBEq, ↓Nat.reduceEqDiff, ↓Nat.reduceLT, ↓Nat.reduceLeDiff, ↓Int.reduceEq, ↓Int.reduceLT, ↓Int.reduceLE, ↓reduceIte, pl_some, pv_eq, hin]
    by_cases h2 : k = 2
    · subst h2
      rw [if_neg h1, if_neg h6, if_pos rfl]
      obtain ⟨_, ho⟩ := w2 rfl
      refine ⟨pl n l, .inl rfl, ?_⟩
      clear w2 w3 w6
      have hof := otherF_of ho
      simp only [mk_kind, mk_col, mk_op, mk_val]
      refine dw_in (fn := Try.f20) rfl body20 (by simp) ?_
      cases not
      · simp -implicitDefEqProofs (maxSteps := 4000000) (disch := omega) only [go_sem, go_sem_proc, dr, Nat.min_def, ↓Nat.reduceBEq, ↓Nat.reduceEqDiff, ↓Nat.reduceLT, ↓Nat.reduceLeDiff, ↓Int.reduceEq, ↓Int.reduceLT, ↓Int.reduceLE, ↓reduceIte]
      · simp -implicitDefEqProofs (maxSteps := 4000000) (disch := omega) only [go_sem, go_sem_proc, dr, Nat.min_def, ↓Nat.reduceBEq, ↓Nat.reduceEqDiff, ↓Nat.reduceLT, ↓Nat.reduceLeDiff, ↓Int.reduceEq, ↓Int.reduceLT, ↓Int.reduceLE, ↓reduceIte, hof]
    by_cases h3 : k = 3
    · subst h3
      rw [if_neg h1, if_neg h6, if_neg h2, if_pos rfl]
      clear w2 w3 w6
      cases not
      · refine ⟨pl n l, .inl rfl, ?_⟩
        simp only [Bool.false_eq_true, if_false, mk_kind, mk_col, mk_op, mk_val]
        refine dw_in (fn := Try.f20) rfl body20 (by simp) ?_
        simp -implicitDefEqProofs (maxSteps := 4000000) (disch := omega) only [go_sem, go_sem_proc, dr, Nat.min_def, ↓Nat.reduceBEq, ↓Nat.reduceEqDiff, ↓Nat.reduceLT, ↓Nat.reduceLeDiff, ↓Int.reduceEq, ↓Int.reduceLT, ↓Int.reduceLE, ↓reduceIte]
      · refine ⟨_, .inr ⟨by simp [mk_list], rfl⟩, ?_⟩
        simp only [if_true, mk_kind, mk_col, mk_op, mk_val, mk_list, List.map_cons, List.map_nil, pv_mk]
        refine dw_in (fn := Try.f20) rfl body20 (by simp) ?_
        simp -implicitDefEqProofs (maxSteps := 4000000) (disch := omega) only [go_sem, go_sem_proc, dr, Nat.min_def, ↓Nat.reduceBEq, ↓Nat.reduceEqDiff, ↓Nat.reduceLT, ↓Nat.reduceLeDiff, ↓Int.reduceEq, ↓Int.reduceLT, ↓Int.reduceLE, ↓reduceIte]
        first | done | rfl
    · rw [if_neg h1, if_neg h6, if_neg h2, if_neg h3]
      have h45 : k = 4 ∨ k = 5 := by omega
      clear w2 w3 w6 h1 h6 h2 h3 hk
      refine ⟨if l = [] then .nils else .nr 32 8 ((l.map (inN not)).map Prd.pv), ?_, ?_⟩
      · cases l with
        | nil => exact .inl rfl
        | cons q r => exact .inr ⟨by simp [mk_list], rfl⟩
      · simp only [mk_kind, mk_col, mk_op, mk_val]
        obtain ⟨kk, hkk⟩ : ∃ kk, (if not then 9 - k else k) = kk := ⟨_, rfl⟩
        rw [hkk]
        have st : ∀ i : Nat, i < l.length → ∃ q lf, l[i]? = some q ∧ l.take (i + 1) = l.take i ++ [q] ∧ (lf = pl (inN not q).nil (inN not q).list ∨ ((inN not q).list ≠ [] ∧ lf = .nr 32 8 ((inN not q).list.map Prd.pv))) ∧ dw E 20 [.agg [.int .i64 q.kind, .int .i64 q.col, .int .i64 q.op, .bool q.val.null, .int .i64 q.val.kind, .int .i64 q.val.int, bl q.val.bytes, pl q.nil q.list], .bool not] [] =
            some (.agg [.int .i64 (inN not q).kind, .int .i64 (inN not q).col, .int .i64 (inN not q).op, .bool (inN not q).val.null, .int .i64 (inN not q).val.kind, .int .i64 (inN not q).val.int, bl (inN not q).val.bytes, lf], []) := fun i hi => by
          obtain ⟨q, hq, hqm, ht⟩ := take_get hi
          obtain ⟨lf, h, h'⟩ := ih q hqm not
          exact ⟨q, lf, hq, ht, h, h'⟩
        clear ih hq hw
        have hkk2 : (not = false ∧ kk = k) ∨ (not = true ∧ kk = 9 - k) := by cases not <;> simp at hkk <;> simp [hkk]
        clear hkk
        refine dw_in (fn := Try.f20) rfl body20 (by simp) ?_
        rcases h45 with rfl | rfl <;> rcases hkk2 with ⟨rfl, rfl⟩ | ⟨rfl, rfl⟩
        · simp -implicitDefEqProofs (maxSteps := 4000000) (disch := omega) only [go_sem, go_sem_proc, dr, Nat.min_def, ↓Nat.reduceBEq, ↓Nat.reduceEqDiff, ↓Nat.reduceLT, ↓Nat.reduceLeDiff, ↓Int.reduceEq, ↓Int.reduceLT, ↓Int.reduceLE, ↓reduceIte]
          refine runs_for (fun i : Nat => (⟨[(1, .bool false), (2, .pb 1048578 0), (4, .pb 1048580 0), (5, .pb 1048581 0), (6, .int .i64 i)],
            (1048578, some ⟨true, .box [.int .i64 4, .int .i64 c, .int .i64 o, .bool v.null, .int .i64 v.kind, .int .i64 v.int, bl v.bytes, pl n l]⟩) :: (1048580, some ⟨true, .box [.int .i64 0, .int .i64 0, .int .i64 0, .bool false, .int .i64 0, .int .i64 0, .nils, .nils]⟩) ::
            (1048581, some ⟨true, .box [.int .i64 4, .int .i64 0, .int .i64 0, .bool false, .int .i64 0, .int .i64 0, .nils, match i with | 0 => .nils | _ + 1 => .h 2097479]⟩) ::
            (match i with | 0 => [] | j + 1 => [(2097479, some ⟨true, .row 32 8 (((l.take (j + 1)).map (inN false)).map Prd.pv)⟩)]), 1⟩ : St)) l.length ?_ ?_ ?_
          · simp -implicitDefEqProofs (maxSteps := 4000000) (disch := omega) only [go_sem, go_sem_proc, dr, Nat.min_def, ↓Nat.reduceBEq, ↓Nat.reduceEqDiff, ↓Nat.reduceLT, ↓Nat.reduceLeDiff, ↓Int.reduceEq, ↓Int.reduceLT, ↓Int.reduceLE, ↓reduceIte]
          · intro i hi
            obtain ⟨q, lf, hq, ht, hlf, hin⟩ := st i hi
            clear st
            have hpv := pv_eq (inN false q)
            rcases hlf with rfl | ⟨hne, rfl⟩
            · rcases i with _ | j
              · simp -implicitDefEqProofs (maxSteps := 4000000) (disch := omega) only [go_sem, go_sem_proc, dr, Nat.min_def, ↓Nat.reduceBEq, ↓Nat.reduceEqDiff, ↓Nat.reduceLT, ↓Nat.reduceLeDiff, ↓Int.reduceEq, ↓Int.reduceLT, ↓Int.reduceLE, ↓reduceIte, hq, pl_get hi, pv_eq, hin, ht]
                first | done | (((repeat' split) <;> (change _ = true; kernel_rfl))) | (refine ⟨by ((repeat' split) <;> (change _ = true; kernel_rfl)), ?_⟩; first | rfl | (rw [LfR_pl hne]) | (simp only [LfR_pl hne]))
              · simp -implicitDefEqProofs (maxSteps := 4000000) (disch := omega) only [go_sem, go_sem_proc, dr, Nat.min_def, ↓Nat.reduceBEq, ↓Nat.reduceEqDiff, ↓Nat.reduceLT, ↓Nat.reduceLeDiff, ↓Int.reduceEq, ↓Int.reduceLT, ↓Int.reduceLE, ↓reduceIte, hq, pl_get hi, pv_eq, hin, ht, toNat_s, List.map_append, List.map_cons, List.map_nil]
                first | done | (((repeat' split) <;> (change _ = true; kernel_rfl))) | (refine ⟨by ((repeat' split) <;> (change _ = true; kernel_rfl)), ?_⟩; first | rfl | (rw [LfR_pl hne]) | (simp only [LfR_pl hne]))
            · rw [LfR_pl hne] at hpv
              rcases i with _ | j
              · simp -implicitDefEqProofs (maxSteps := 4000000) (disch := omega) only [go_sem, go_sem_proc, dr, Nat.min_def, ↓Nat.reduceBEq, ↓Nat.reduceEqDiff, ↓Nat.reduceLT, ↓Nat.reduceLeDiff, ↓Int.reduceEq, ↓Int.reduceLT, ↓Int.reduceLE, ↓reduceIte, hq, pl_get hi, pv_eq, hin, ht]
                first | done | (((repeat' split) <;> (change _ = true; kernel_rfl))) | (refine ⟨by ((repeat' split) <;> (change _ = true; kernel_rfl)), ?_⟩; first | rfl | (rw [LfR_pl hne]) | (simp only [LfR_pl hne]))
              · simp -implicitDefEqProofs (maxSteps := 4000000) (disch := omega) only [go_sem, go_sem_proc, dr, Nat.min_def, ↓Nat.reduceBEq, ↓Nat.reduceEqDiff, ↓Nat.reduceLT, ↓Nat.reduceLeDiff, ↓Int.reduceEq, ↓Int.reduceLT, ↓Int.reduceLE, ↓reduceIte, hq, pl_get hi, pv_eq, hin, ht, toNat_s, List.map_append, List.map_cons, List.map_nil]
                first | done | (((repeat' split) <;> (change _ = true; kernel_rfl))) | (refine ⟨by ((repeat' split) <;> (change _ = true; kernel_rfl)), ?_⟩; first | rfl | (rw [LfR_pl hne]) | (simp only [LfR_pl hne]))
          · cases l with
            | nil => simp -implicitDefEqProofs (maxSteps := 4000000) (disch := omega) only [go_sem, go_sem_proc, dr, Nat.min_def, ↓Nat.reduceBEq, ↓Nat.reduceEqDiff, ↓Nat.reduceLT, ↓Nat.reduceLeDiff, ↓Int.reduceEq, ↓Int.reduceLT, ↓Int.reduceLE, ↓reduceIte]
                     first | done | rfl
            | cons a r => simp -implicitDefEqProofs (maxSteps := 4000000) (disch := omega) only [go_sem, go_sem_proc, dr, Nat.min_def, ↓Nat.reduceBEq, ↓Nat.reduceEqDiff, ↓Nat.reduceLT, ↓Nat.reduceLeDiff, ↓Int.reduceEq, ↓Int.reduceLT, ↓Int.reduceLE, ↓reduceIte, take_all]
                          first | done | rfl
        · simp -implicitDefEqProofs (maxSteps := 4000000) (disch := omega) only [go_sem, go_sem_proc, dr, Nat.min_def, ↓Nat.reduceBEq, ↓Nat.reduceEqDiff, ↓Nat.reduceLT, ↓Nat.reduceLeDiff, ↓Int.reduceEq, ↓Int.reduceLT, ↓Int.reduceLE, ↓reduceIte]
          refine runs_for (fun i : Nat => (⟨[(1, .bool true), (2, .pb 1048578 0), (4, .pb 1048580 0), (5, .pb 1048581 0), (6, .int .i64 i)],
            (1048578, some ⟨true, .box [.int .i64 4, .int .i64 c, .int .i64 o, .bool v.null, .int .i64 v.kind, .int .i64 v.int, bl v.bytes, pl n l]⟩) :: (1048580, some ⟨true, .box [.int .i64 0, .int .i64 0, .int .i64 0, .bool false, .int .i64 0, .int .i64 0, .nils, .nils]⟩) ::
            (1048581, some ⟨true, .box [.int .i64 5, .int .i64 0, .int .i64 0, .bool false, .int .i64 0, .int .i64 0, .nils, match i with | 0 => .nils | _ + 1 => .h 2097479]⟩) ::
            (match i with | 0 => [] | j + 1 => [(2097479, some ⟨true, .row 32 8 (((l.take (j + 1)).map (inN true)).map Prd.pv)⟩)]), 1⟩ : St)) l.length ?_ ?_ ?_
          · simp -implicitDefEqProofs (maxSteps := 4000000) (disch := omega) only [go_sem, go_sem_proc, dr, Nat.min_def, ↓Nat.reduceBEq, ↓Nat.reduceEqDiff, ↓Nat.reduceLT, ↓Nat.reduceLeDiff, ↓Int.reduceEq, ↓Int.reduceLT, ↓Int.reduceLE, ↓reduceIte]
          · intro i hi
            obtain ⟨q, lf, hq, ht, hlf, hin⟩ := st i hi
            clear st
            have hpv := pv_eq (inN true q)
            rcases hlf with rfl | ⟨hne, rfl⟩
            · rcases i with _ | j
              · simp -implicitDefEqProofs (maxSteps := 4000000) (disch := omega) only [go_sem, go_sem_proc, dr, Nat.min_def, ↓Nat.reduceBEq, ↓Nat.reduceEqDiff, ↓Nat.reduceLT, ↓Nat.reduceLeDiff, ↓Int.reduceEq, ↓Int.reduceLT, ↓Int.reduceLE, ↓reduceIte, hq, pl_get hi, pv_eq, hin, ht]
                first | done | (((repeat' split) <;> (change _ = true; kernel_rfl))) | (refine ⟨by ((repeat' split) <;> (change _ = true; kernel_rfl)), ?_⟩; first | rfl | (rw [LfR_pl hne]) | (simp only [LfR_pl hne]))
              · simp -implicitDefEqProofs (maxSteps := 4000000) (disch := omega) only [go_sem, go_sem_proc, dr, Nat.min_def, ↓Nat.reduceBEq, ↓Nat.reduceEqDiff, ↓Nat.reduceLT, ↓Nat.reduceLeDiff, ↓Int.reduceEq, ↓Int.reduceLT, ↓Int.reduceLE, ↓reduceIte, hq, pl_get hi, pv_eq, hin, ht, toNat_s, List.map_append, List.map_cons, List.map_nil]
                first | done | (((repeat' split) <;> (change _ = true; kernel_rfl))) | (refine ⟨by ((repeat' split) <;> (change _ = true; kernel_rfl)), ?_⟩; first | rfl | (rw [LfR_pl hne]) | (simp only [LfR_pl hne]))
            · rw [LfR_pl hne] at hpv
              rcases i with _ | j
              · simp -implicitDefEqProofs (maxSteps := 4000000) (disch := omega) only [go_sem, go_sem_proc, dr, Nat.min_def, ↓Nat.reduceBEq, ↓Nat.reduceEqDiff, ↓Nat.reduceLT, ↓Nat.reduceLeDiff, ↓Int.reduceEq, ↓Int.reduceLT, ↓Int.reduceLE, ↓reduceIte, hq, pl_get hi, pv_eq, hin, ht]
                first | done | (((repeat' split) <;> (change _ = true; kernel_rfl))) | (refine ⟨by ((repeat' split) <;> (change _ = true; kernel_rfl)), ?_⟩; first | rfl | (rw [LfR_pl hne]) | (simp only [LfR_pl hne]))
              · simp -implicitDefEqProofs (maxSteps := 4000000) (disch := omega) only [go_sem, go_sem_proc, dr, Nat.min_def, ↓Nat.reduceBEq, ↓Nat.reduceEqDiff, ↓Nat.reduceLT, ↓Nat.reduceLeDiff, ↓Int.reduceEq, ↓Int.reduceLT, ↓Int.reduceLE, ↓reduceIte, hq, pl_get hi, pv_eq, hin, ht, toNat_s, List.map_append, List.map_cons, List.map_nil]
                first | done | (((repeat' split) <;> (change _ = true; kernel_rfl))) | (refine ⟨by ((repeat' split) <;> (change _ = true; kernel_rfl)), ?_⟩; first | rfl | (rw [LfR_pl hne]) | (simp only [LfR_pl hne]))
          · cases l with
            | nil => simp -implicitDefEqProofs (maxSteps := 4000000) (disch := omega) only [go_sem, go_sem_proc, dr, Nat.min_def, ↓Nat.reduceBEq, ↓Nat.reduceEqDiff, ↓Nat.reduceLT, ↓Nat.reduceLeDiff, ↓Int.reduceEq, ↓Int.reduceLT, ↓Int.reduceLE, ↓reduceIte]
                     first | done | rfl
            | cons a r => simp -implicitDefEqProofs (maxSteps := 4000000) (disch := omega) only [go_sem, go_sem_proc, dr, Nat.min_def, ↓Nat.reduceBEq, ↓Nat.reduceEqDiff, ↓Nat.reduceLT, ↓Nat.reduceLeDiff, ↓Int.reduceEq, ↓Int.reduceLT, ↓Int.reduceLE, ↓reduceIte, take_all]
                          first | done | rfl
        · simp -implicitDefEqProofs (maxSteps := 4000000) (disch := omega) only [go_sem, go_sem_proc, dr, Nat.min_def, ↓Nat.reduceBEq, ↓Nat.reduceEqDiff, ↓Nat.reduceLT, ↓Nat.reduceLeDiff, ↓Int.reduceEq, ↓Int.reduceLT, ↓Int.reduceLE, ↓reduceIte]
          refine runs_for (fun i : Nat => (⟨[(1, .bool false), (2, .pb 1048578 0), (4, .pb 1048580 0), (5, .pb 1048581 0), (6, .int .i64 i)],
            (1048578, some ⟨true, .box [.int .i64 5, .int .i64 c, .int .i64 o, .bool v.null, .int .i64 v.kind, .int .i64 v.int, bl v.bytes, pl n l]⟩) :: (1048580, some ⟨true, .box [.int .i64 0, .int .i64 0, .int .i64 0, .bool false, .int .i64 0, .int .i64 0, .nils, .nils]⟩) ::
            (1048581, some ⟨true, .box [.int .i64 5, .int .i64 0, .int .i64 0, .bool false, .int .i64 0, .int .i64 0, .nils, match i with | 0 => .nils | _ + 1 => .h 2097479]⟩) ::
            (match i with | 0 => [] | j + 1 => [(2097479, some ⟨true, .row 32 8 (((l.take (j + 1)).map (inN false)).map Prd.pv)⟩)]), 1⟩ : St)) l.length ?_ ?_ ?_
          · simp -implicitDefEqProofs (maxSteps := 4000000) (disch := omega) only [go_sem, go_sem_proc, dr, Nat.min_def, ↓Nat.reduceBEq, ↓Nat.reduceEqDiff, ↓Nat.reduceLT, ↓Nat.reduceLeDiff, ↓Int.reduceEq, ↓Int.reduceLT, ↓Int.reduceLE, ↓reduceIte]
          · intro i hi
            obtain ⟨q, lf, hq, ht, hlf, hin⟩ := st i hi
            clear st
            have hpv := pv_eq (inN false q)
            rcases hlf with rfl | ⟨hne, rfl⟩
            · rcases i with _ | j
              · simp -implicitDefEqProofs (maxSteps := 4000000) (disch := omega) only [go_sem, go_sem_proc, dr, Nat.min_def, ↓Nat.reduceBEq, ↓Nat.reduceEqDiff, ↓Nat.reduceLT, ↓Nat.reduceLeDiff, ↓Int.reduceEq, ↓Int.reduceLT, ↓Int.reduceLE, ↓reduceIte, hq, pl_get hi, pv_eq, hin, ht]
                first | done | (((repeat' split) <;> (change _ = true; kernel_rfl))) | (refine ⟨by ((repeat' split) <;> (change _ = true; kernel_rfl)), ?_⟩; first | rfl | (rw [LfR_pl hne]) | (simp only [LfR_pl hne]))
              · simp -implicitDefEqProofs (maxSteps := 4000000) (disch := omega) only [go_sem, go_sem_proc, dr, Nat.min_def, ↓Nat.reduceBEq, ↓Nat.reduceEqDiff, ↓Nat.reduceLT, ↓Nat.reduceLeDiff, ↓Int.reduceEq, ↓Int.reduceLT, ↓Int.reduceLE, ↓reduceIte, hq, pl_get hi, pv_eq, hin, ht, toNat_s, List.map_append, List.map_cons, List.map_nil]
                first | done | (((repeat' split) <;> (change _ = true; kernel_rfl))) | (refine ⟨by ((repeat' split) <;> (change _ = true; kernel_rfl)), ?_⟩; first | rfl | (rw [LfR_pl hne]) | (simp only [LfR_pl hne]))
            · rw [LfR_pl hne] at hpv
              rcases i with _ | j
              · simp -implicitDefEqProofs (maxSteps := 4000000) (disch := omega) only [go_sem, go_sem_proc, dr, Nat.min_def, ↓Nat.reduceBEq, ↓Nat.reduceEqDiff, ↓Nat.reduceLT, ↓Nat.reduceLeDiff, ↓Int.reduceEq, ↓Int.reduceLT, ↓Int.reduceLE, ↓reduceIte, hq, pl_get hi, pv_eq, hin, ht]
                first | done | (((repeat' split) <;> (change _ = true; kernel_rfl))) | (refine ⟨by ((repeat' split) <;> (change _ = true; kernel_rfl)), ?_⟩; first | rfl | (rw [LfR_pl hne]) | (simp only [LfR_pl hne]))
              · simp -implicitDefEqProofs (maxSteps := 4000000) (disch := omega) only [go_sem, go_sem_proc, dr, Nat.min_def, ↓Nat.reduceBEq, ↓Nat.reduceEqDiff, ↓Nat.reduceLT, ↓Nat.reduceLeDiff, ↓Int.reduceEq, ↓Int.reduceLT, ↓Int.reduceLE, ↓reduceIte, hq, pl_get hi, pv_eq, hin, ht, toNat_s, List.map_append, List.map_cons, List.map_nil]
                first | done | (((repeat' split) <;> (change _ = true; kernel_rfl))) | (refine ⟨by ((repeat' split) <;> (change _ = true; kernel_rfl)), ?_⟩; first | rfl | (rw [LfR_pl hne]) | (simp only [LfR_pl hne]))
          · cases l with
            | nil => simp -implicitDefEqProofs (maxSteps := 4000000) (disch := omega) only [go_sem, go_sem_proc, dr, Nat.min_def, ↓Nat.reduceBEq, ↓Nat.reduceEqDiff, ↓Nat.reduceLT, ↓Nat.reduceLeDiff, ↓Int.reduceEq, ↓Int.reduceLT, ↓Int.reduceLE, ↓reduceIte]
                     first | done | rfl
            | cons a r => simp -implicitDefEqProofs (maxSteps := 4000000) (disch := omega) only [go_sem, go_sem_proc, dr, Nat.min_def, ↓Nat.reduceBEq, ↓Nat.reduceEqDiff, ↓Nat.reduceLT, ↓Nat.reduceLeDiff, ↓Int.reduceEq, ↓Int.reduceLT, ↓Int.reduceLE, ↓reduceIte, take_all]
                          first | done | rfl
        · simp -implicitDefEqProofs (maxSteps := 4000000) (disch := omega) only [go_sem, go_sem_proc, dr, Nat.min_def, ↓Nat.reduceBEq, ↓Nat.reduceEqDiff, ↓Nat.reduceLT, ↓Nat.reduceLeDiff, ↓Int.reduceEq, ↓Int.reduceLT, ↓Int.reduceLE, ↓reduceIte]
          refine runs_for (fun i : Nat => (⟨[(1, .bool true), (2, .pb 1048578 0), (4, .pb 1048580 0), (5, .pb 1048581 0), (6, .int .i64 i)],
            (1048578, some ⟨true, .box [.int .i64 5, .int .i64 c, .int .i64 o, .bool v.null, .int .i64 v.kind, .int .i64 v.int, bl v.bytes, pl n l]⟩) :: (1048580, some ⟨true, .box [.int .i64 0, .int .i64 0, .int .i64 0, .bool false, .int .i64 0, .int .i64 0, .nils, .nils]⟩) ::
            (1048581, some ⟨true, .box [.int .i64 4, .int .i64 0, .int .i64 0, .bool false, .int .i64 0, .int .i64 0, .nils, match i with | 0 => .nils | _ + 1 => .h 2097479]⟩) ::
            (match i with | 0 => [] | j + 1 => [(2097479, some ⟨true, .row 32 8 (((l.take (j + 1)).map (inN true)).map Prd.pv)⟩)]), 1⟩ : St)) l.length ?_ ?_ ?_
          · simp -implicitDefEqProofs (maxSteps := 4000000) (disch := omega) only [go_sem, go_sem_proc, dr, Nat.min_def, ↓Nat.reduceBEq, ↓Nat.reduceEqDiff, ↓Nat.reduceLT, ↓Nat.reduceLeDiff, ↓Int.reduceEq, ↓Int.reduceLT, ↓Int.reduceLE, ↓reduceIte]
          · intro i hi
            obtain ⟨q, lf, hq, ht, hlf, hin⟩ := st i hi
            clear st
            have hpv := pv_eq (inN true q)
            rcases hlf with rfl | ⟨hne, rfl⟩
            · rcases i with _ | j
              · simp -implicitDefEqProofs (maxSteps := 4000000) (disch := omega) only [go_sem, go_sem_proc, dr, Nat.min_def, ↓Nat.reduceBEq, ↓Nat.reduceEqDiff, ↓Nat.reduceLT, ↓Nat.reduceLeDiff, ↓Int.reduceEq, ↓Int.reduceLT, ↓Int.reduceLE, ↓reduceIte, hq, pl_get hi, pv_eq, hin, ht]
                first | done | (((repeat' split) <;> (change _ = true; kernel_rfl))) | (refine ⟨by ((repeat' split) <;> (change _ = true; kernel_rfl)), ?_⟩; first | rfl | (rw [LfR_pl hne]) | (simp only [LfR_pl hne]))
              · simp -implicitDefEqProofs (maxSteps := 4000000) (disch := omega) only [go_sem, go_sem_proc, dr, Nat.min_def, ↓Nat.reduceBEq, ↓Nat.reduceEqDiff, ↓Nat.reduceLT, ↓Nat.reduceLeDiff, ↓Int.reduceEq, ↓Int.reduceLT, ↓Int.reduceLE, ↓reduceIte, hq, pl_get hi, pv_eq, hin, ht, toNat_s, List.map_append, List.map_cons, List.map_nil]
                first | done | (((repeat' split) <;> (change _ = true; kernel_rfl))) | (refine ⟨by ((repeat' split) <;> (change _ = true; kernel_rfl)), ?_⟩; first | rfl | (rw [LfR_pl hne]) | (simp only [LfR_pl hne]))
            · rw [LfR_pl hne] at hpv
              rcases i with _ | j
              · simp -implicitDefEqProofs (maxSteps := 4000000) (disch := omega) only [go_sem, go_sem_proc, dr, Nat.min_def, ↓Nat.reduceBEq, ↓Nat.reduceEqDiff, ↓Nat.reduceLT, ↓Nat.reduceLeDiff, ↓Int.reduceEq, ↓Int.reduceLT, ↓Int.reduceLE, ↓reduceIte, hq, pl_get hi, pv_eq, hin, ht]
                first | done | (((repeat' split) <;> (change _ = true; kernel_rfl))) | (refine ⟨by ((repeat' split) <;> (change _ = true; kernel_rfl)), ?_⟩; first | rfl | (rw [LfR_pl hne]) | (simp only [LfR_pl hne]))
              · simp -implicitDefEqProofs (maxSteps := 4000000) (disch := omega) only [go_sem, go_sem_proc, dr, Nat.min_def, ↓Nat.reduceBEq, ↓Nat.reduceEqDiff, ↓Nat.reduceLT, ↓Nat.reduceLeDiff, ↓Int.reduceEq, ↓Int.reduceLT, ↓Int.reduceLE, ↓reduceIte, hq, pl_get hi, pv_eq, hin, ht, toNat_s, List.map_append, List.map_cons, List.map_nil]
                first | done | (((repeat' split) <;> (change _ = true; kernel_rfl))) | (refine ⟨by ((repeat' split) <;> (change _ = true; kernel_rfl)), ?_⟩; first | rfl | (rw [LfR_pl hne]) | (simp only [LfR_pl hne]))
          · cases l with
            | nil => simp -implicitDefEqProofs (maxSteps := 4000000) (disch := omega) only [go_sem, go_sem_proc, dr, Nat.min_def, ↓Nat.reduceBEq, ↓Nat.reduceEqDiff, ↓Nat.reduceLT, ↓Nat.reduceLeDiff, ↓Int.reduceEq, ↓Int.reduceLT, ↓Int.reduceLE, ↓reduceIte]
                     first | done | rfl
            | cons a r => simp -implicitDefEqProofs (maxSteps := 4000000) (disch := omega) only [go_sem, go_sem_proc, dr, Nat.min_def, ↓Nat.reduceBEq, ↓Nat.reduceEqDiff, ↓Nat.reduceLT, ↓Nat.reduceLeDiff, ↓Int.reduceEq, ↓Int.reduceLT, ↓Int.reduceLE, ↓reduceIte, take_all]
                          first | done | rfl
end Go.Proofs.Ytljjgccgmloajaa.D
