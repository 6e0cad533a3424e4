/- One form as the document says it: its key; it is the program's. -/
import Derived.Test.YtljjgccgmloajaaRNorm3
import Derived.Test.YtljjgccgmloajaaNormSem
namespace Go.Proofs.Ytljjgccgmloajaa.D
open Go Go.Den
set_option linter.unusedSimpArgs false
set_option linter.unusedVariables false
set_option maxRecDepth 20000
set_option maxHeartbeats 8000000
def keyR (p : Prd) : Option Int := match waysN (inN false p) with | some [c] => firstKey c.2 | _ => none
theorem RKey_spec {m : Nat} {p : Prd} (hp : Sm p) (hw : RW m p) : dw E 10 [.agg [.int .i64 p.kind, .int .i64 p.col, .int .i64 p.op, .bool p.val.null, .int .i64 p.val.kind, .int .i64 p.val.int, bl p.val.bytes, pl p.nil p.list]] [] = some (keyPV (keyR p), []) := by
  unfold keyR
  cases h : waysN (inN false p) with
  | none =>
    have hN := RNorm_no hp hw h
    refine dw_in (fn := Try.f10) rfl body10 (by simp) ?_
    simp -implicitDefEqProofs (maxSteps := 4000000) (disch := omega) only [go_sem, go_sem_proc, dr, Nat.min_def, ↓Nat.reduceBEq, ↓Nat.reduceEqDiff, ↓Nat.reduceLT, ↓Nat.reduceLeDiff, ↓Int.reduceEq, ↓Int.reduceLT, ↓Int.reduceLE, ↓reduceIte, hN, keyPV]
  | some A =>
    have hN := RNorm_yes hp hw h
    obtain ⟨hA, hA2⟩ := ways_wb A h
    rcases A with _ | ⟨c, _ | ⟨c2, r⟩⟩
    · rw [show RnLeaf [] = .nils from rfl] at hN
      refine dw_in (fn := Try.f10) rfl body10 (by simp) ?_
      simp -implicitDefEqProofs (maxSteps := 4000000) (disch := omega) only [go_sem, go_sem_proc, dr, Nat.min_def, ↓Nat.reduceBEq, ↓Nat.reduceEqDiff, ↓Nat.reduceLT, ↓Nat.reduceLeDiff, ↓Int.reduceEq, ↓Int.reduceLT, ↓Int.reduceLE, ↓reduceIte, hN, keyPV]
    · rw [show RnLeaf [c] = .nr 32 8 [(refAnd c).pv] from rfl, refAnd_pv] at hN
      have hcl := hA2 c List.mem_cons_self
      refine dw_in (fn := Try.f10) rfl body10 (by simp) ?_
      simp -implicitDefEqProofs (maxSteps := 4000000) (disch := omega) only [go_sem, go_sem_proc, dr, Nat.min_def, ↓Nat.reduceBEq, ↓Nat.reduceEqDiff, ↓Nat.reduceLT, ↓Nat.reduceLeDiff, ↓Int.reduceEq, ↓Int.reduceLT, ↓Int.reduceLE, ↓reduceIte, hN]
      refine runs_any (fun i : Nat => (⟨[(6, pl c.1 c.2), (7, .int .i64 i)], [], 1⟩ : St)) (fun i => c.2.length - i) 0
        (fun i => i ≤ c.2.length ∧ firstKey c.2 = firstKey (c.2.drop i)) ⟨Nat.zero_le _, by simp⟩ ?_ ?_
      · simp -implicitDefEqProofs (maxSteps := 4000000) (disch := omega) only [go_sem, go_sem_proc, dr, Nat.min_def, ↓Nat.reduceBEq, ↓Nat.reduceEqDiff, ↓Nat.reduceLT, ↓Nat.reduceLeDiff, ↓Int.reduceEq, ↓Int.reduceLT, ↓Int.reduceLE, ↓reduceIte]
      · rintro i ⟨hi, he⟩
        by_cases hlt : i < c.2.length
        · obtain ⟨q, hq, hqm, _⟩ := take_get hlt
          rw [drop_cons hq, firstKey] at he
          by_cases h1 : q.kind = 2
          · by_cases h2 : q.col = 0
            · by_cases h3 : q.op = 1
              · rw [if_pos ⟨h1, h2, h3⟩] at he
                have h1 := eq_true h1
                have h2 := eq_true h2
                have h3 := eq_true h3
                simp -implicitDefEqProofs (maxSteps := 4000000) (disch := omega) only [go_sem, go_sem_proc, dr, Nat.min_def, ↓Nat.reduceBEq, ↓Nat.reduceEqDiff, ↓Nat.reduceLT, ↓Nat.reduceLeDiff, ↓Int.reduceEq, ↓Int.reduceLT, ↓Int.reduceLE, ↓reduceIte, hq, pl_get hlt, pv_eq, h1, h2, h3, he, keyPV]
                first | done | ((repeat' split) <;> (change _ = true; kernel_rfl))
              · rw [if_neg fun h => h3 h.2.2] at he
                have h1 := eq_true h1
                have h2 := eq_true h2
                simp -implicitDefEqProofs (maxSteps := 4000000) (disch := omega) only [go_sem, go_sem_proc, dr, Nat.min_def, ↓Nat.reduceBEq, ↓Nat.reduceEqDiff, ↓Nat.reduceLT, ↓Nat.reduceLeDiff, ↓Int.reduceEq, ↓Int.reduceLT, ↓Int.reduceLE, ↓reduceIte, hq, pl_get hlt, pv_eq, h1, h2, h3]
                first | exact ⟨by ((repeat' split) <;> (change _ = true; kernel_rfl)), i + 1, rfl, ⟨by omega, he⟩, by show c.2.length - (i + 1) < c.2.length - i; omega⟩ | exact ⟨i + 1, rfl, ⟨by omega, he⟩, by show c.2.length - (i + 1) < c.2.length - i; omega⟩
            · rw [if_neg fun h => h2 h.2.1] at he
              have h1 := eq_true h1
              simp -implicitDefEqProofs (maxSteps := 4000000) (disch := omega) only [go_sem, go_sem_proc, dr, Nat.min_def, ↓Nat.reduceBEq, ↓Nat.reduceEqDiff, ↓Nat.reduceLT, ↓Nat.reduceLeDiff, ↓Int.reduceEq, ↓Int.reduceLT, ↓Int.reduceLE, ↓reduceIte, hq, pl_get hlt, pv_eq, h1, h2]
              first | exact ⟨by ((repeat' split) <;> (change _ = true; kernel_rfl)), i + 1, rfl, ⟨by omega, he⟩, by show c.2.length - (i + 1) < c.2.length - i; omega⟩ | exact ⟨i + 1, rfl, ⟨by omega, he⟩, by show c.2.length - (i + 1) < c.2.length - i; omega⟩
          · rw [if_neg fun h => h1 h.1] at he
            simp -implicitDefEqProofs (maxSteps := 4000000) (disch := omega) only [go_sem, go_sem_proc, dr, Nat.min_def, ↓Nat.reduceBEq, ↓Nat.reduceEqDiff, ↓Nat.reduceLT, ↓Nat.reduceLeDiff, ↓Int.reduceEq, ↓Int.reduceLT, ↓Int.reduceLE, ↓reduceIte, hq, pl_get hlt, pv_eq, h1]
            first | exact ⟨by ((repeat' split) <;> (change _ = true; kernel_rfl)), i + 1, rfl, ⟨by omega, he⟩, by show c.2.length - (i + 1) < c.2.length - i; omega⟩ | exact ⟨i + 1, rfl, ⟨by omega, he⟩, by show c.2.length - (i + 1) < c.2.length - i; omega⟩
        · have hd : c.2.drop i = [] := List.drop_eq_nil_of_le (by omega)
          rw [hd, firstKey] at he
          simp -implicitDefEqProofs (maxSteps := 4000000) (disch := omega) only [go_sem, go_sem_proc, dr, Nat.min_def, ↓Nat.reduceBEq, ↓Nat.reduceEqDiff, ↓Nat.reduceLT, ↓Nat.reduceLeDiff, ↓Int.reduceEq, ↓Int.reduceLT, ↓Int.reduceLE, ↓reduceIte, he, keyPV]
    · rw [show RnLeaf (c :: c2 :: r) = .nr 32 8 ((refAnd c).pv :: (refAnd c2).pv :: (r.map refAnd).map Prd.pv) from rfl] at hN
      simp only [List.length_cons] at hA
      refine dw_in (fn := Try.f10) rfl body10 (by simp) ?_
      simp -implicitDefEqProofs (maxSteps := 4000000) (disch := omega) only [go_sem, go_sem_proc, dr, Nat.min_def, ↓Nat.reduceBEq, ↓Nat.reduceEqDiff, ↓Nat.reduceLT, ↓Nat.reduceLeDiff, ↓Int.reduceEq, ↓Int.reduceLT, ↓Int.reduceLE, ↓reduceIte, hN, keyPV]
/-! it is the same -/
def SL (A : Al) : List (List Prd) := A.map fun c => c.2.map Prd.still
def Rel (x : Option Al) (y : Al × Bool) : Prop := match x with
  | some A => y.2 = true ∧ SL A = y.1.map (·.2)
  | none => y.2 = false
theorem SL_append (A B : Al) : SL (A ++ B) = SL A ++ SL B := by simp [SL]
theorem cross_map (A B : Al) : (crossN A B).map (·.2) = (A.map (·.2)).flatMap fun x => (B.map (·.2)).map fun y => x ++ y := by
  simp only [crossN, List.map_flatMap, List.flatMap_map, List.map_map]
  rfl
theorem SL_cross (A B : Al) : SL (crossN A B) = (SL A).flatMap fun x => (SL B).map fun y => x ++ y := by
  simp only [SL, crossN, List.map_flatMap, List.flatMap_map, List.map_map]
  congr 1
  funext x
  congr 1
  funext y
  simp
theorem okLen_map (A : Al) : okLen A = (A.map (·.2)).all fun l => decide ((l.length : Int) ≤ 32) := by simp only [okLen, List.all_map]; rfl
theorem okLen_SL (A : Al) : okLen A = (SL A).all fun l => decide ((l.length : Int) ≤ 32) := by
  simp only [okLen, SL, List.all_map]
  congr 1
  funext x
  simp
theorem false_or {ys : List (Al × Bool)} {acc : Al × Bool} (h : acc.2 = false) : (ys.foldl eitherN acc).2 = false := by
  cases hh : (ys.foldl eitherN acc).2 with
  | false => rfl
  | true => have := (fold_or (row := []) ys acc hh).1; rw [h] at this; cases this
theorem false_and' {ys : List (Al × Bool)} {acc : Al × Bool} (h : acc.2 = false) : (ys.foldl bothN acc).2 = false := by
  cases hh : (ys.foldl bothN acc).2 with
  | false => rfl
  | true => have := (fold_and (row := []) ys acc hh).1; rw [h] at this; cases this
theorem rel_or : ∀ (xs : List (Option Al)) (ys : List (Al × Bool)) (out B : Al), xs.length = ys.length → (∀ i (h : i < xs.length) (h' : i < ys.length), Rel xs[i] ys[i]) → SL out = B.map (·.2) → Rel (orW xs out) (ys.foldl eitherN (B, true)) := by
  intro xs
  induction xs with
  | nil =>
    intro ys out B hl _ hs
    cases ys with
    | nil => exact ⟨rfl, hs⟩
    | cons => simp at hl
  | cons x r ih =>
    intro ys out B hl h hs
    cases ys with
    | nil => simp at hl
    | cons y t =>
      have h0 := h 0 (by simp) (by simp)
      simp only [List.getElem_cons_zero] at h0
      have hr : ∀ i (h1 : i < r.length) (h2 : i < t.length), Rel r[i] t[i] := fun i h1 h2 => by
        have := h (i + 1) (by simp only [List.length_cons]; omega) (by simp only [List.length_cons]; omega)
        simpa using this
      simp only [List.length_cons, Nat.add_right_cancel_iff] at hl
      rw [List.foldl_cons]
      cases x with
      | none =>
        rw [orW]
        have h0 : y.2 = false := h0
        exact false_or (by simp [eitherN, h0])
      | some A =>
        obtain ⟨h1, h2⟩ : y.2 = true ∧ SL A = y.1.map (·.2) := h0
        have e1 : out.length = B.length := by have := congrArg List.length hs; simpa [SL] using this
        have e2 : A.length = y.1.length := by have := congrArg List.length h2; simpa [SL] using this
        rw [orW]
        split
        · rename_i h3
          exact false_or (by simp [eitherN]; intro _; omega)
        · rename_i h3
          have e : eitherN (B, true) y = (B ++ y.1, true) := by
            simp only [eitherN, h1, Bool.and_self, Bool.true_and, Prod.mk.injEq, true_and, decide_eq_true_eq, List.length_append]
            omega
          rw [e]
          exact ih t _ _ hl hr (by rw [SL_append, hs, h2, List.map_append])
theorem rel_and : ∀ (xs : List (Option Al)) (ys : List (Al × Bool)) (out B : Al), xs.length = ys.length → (∀ i (h : i < xs.length) (h' : i < ys.length), Rel xs[i] ys[i]) → SL out = B.map (·.2) → Rel (andW xs out) (ys.foldl bothN (B, true)) := by
  intro xs
  induction xs with
  | nil =>
    intro ys out B hl _ hs
    cases ys with
    | nil => exact ⟨rfl, hs⟩
    | cons => simp at hl
  | cons x r ih =>
    intro ys out B hl h hs
    cases ys with
    | nil => simp at hl
    | cons y t =>
      have h0 := h 0 (by simp) (by simp)
      simp only [List.getElem_cons_zero] at h0
      have hr : ∀ i (h1 : i < r.length) (h2 : i < t.length), Rel r[i] t[i] := fun i h1 h2 => by
        have := h (i + 1) (by simp only [List.length_cons]; omega) (by simp only [List.length_cons]; omega)
        simpa using this
      simp only [List.length_cons, Nat.add_right_cancel_iff] at hl
      rw [List.foldl_cons]
      cases x with
      | none =>
        rw [andW]
        have h0 : y.2 = false := h0
        exact false_and' (by simp [bothN, h0])
      | some A =>
        obtain ⟨h1, h2⟩ : y.2 = true ∧ SL A = y.1.map (·.2) := h0
        have e1 : out.length = B.length := by have := congrArg List.length hs; simpa [SL] using this
        have e2 : A.length = y.1.length := by have := congrArg List.length h2; simpa [SL] using this
        rw [andW]
        split
        · rename_i h3
          refine false_and' ?_
          unfold bothN
          rw [if_neg (by simp only [h1, Bool.and_self, Bool.true_and, decide_eq_true_eq]; rw [← e1, ← e2]; omega)]
        · rename_i h3
          have e : bothN (B, true) y = (crossN B y.1, okLen (crossN B y.1)) := by
            unfold bothN
            rw [if_pos (by simp only [h1, Bool.and_self, Bool.true_and, decide_eq_true_eq]; rw [← e1, ← e2]; omega)]
          have hsc : SL (crossN out A) = (crossN B y.1).map (·.2) := by rw [SL_cross, cross_map, hs, h2]
          have hok : okLen (crossN out A) = okLen (crossN B y.1) := by rw [okLen_SL, okLen_map, hsc]
          rw [e]
          split
          · rename_i h4
            exact false_and' (by dsimp only; rw [← hok]; exact h4)
          · rename_i h4
            have h4 : okLen (crossN B y.1) = true := by rw [← hok]; simpa using h4
            rw [h4]
            exact ih t _ _ hl hr hsc
theorem rel_form {m : Nat} {p : Prd} (hw : RW m p) (not : Bool) : Rel (waysN (inN not p)) (formN not p) := by
  induction p using Prd.ind generalizing not with
  | h k c o v n l ih =>
    obtain ⟨hk, w2, w3, w6, hw⟩ := hw
    have ih := fun q hm => ih q hm (hw q hm)
    have hL : ∀ i (h : i < ((l.map (inN not)).map waysN).length) (h' : i < (l.map (formN not)).length), Rel ((l.map (inN not)).map waysN)[i] (l.map (formN not))[i] := fun i h h' => by
      simp only [List.getElem_map]
      exact ih _ (List.getElem_mem _) not
    rw [in_mk, form_mk]
    by_cases h1 : k = 1
    · rw [if_pos h1, if_pos h1]
      cases not
      · exact ⟨rfl, rfl⟩
      · exact ⟨rfl, rfl⟩
    by_cases h6 : k = 6
    · rw [if_neg h1, if_pos h6, if_neg h1, if_neg (by omega), if_neg (by omega), if_neg (by omega), if_neg (by omega), if_pos h6]
      cases l with
      | nil => exact absurd rfl (w6 h6)
      | cons q r => exact ih q List.mem_cons_self _
    by_cases h2 : k = 2
    · rw [if_neg h1, if_neg h6, if_pos h2, if_neg h1, if_pos h2, ways_mk, if_neg (by decide), if_neg (by decide)]
      rw [otherR_eq (w2 h2).2]
      exact ⟨rfl, rfl⟩
    by_cases h3 : k = 3
    · rw [if_neg h1, if_neg h6, if_neg h2, if_pos h3, if_neg h1, if_neg h2, if_pos h3]
      cases not
      · simp only [Bool.false_eq_true, if_false]
        rw [ways_mk, if_neg (by decide), if_neg (by decide)]
        exact ⟨rfl, rfl⟩
      · simp only [if_true]
        rw [ways_mk, if_neg (by decide), if_neg (by decide)]
        refine ⟨rfl, ?_⟩
        simp only [SL, notP, List.map_cons, List.map_nil, still_mk (k := 6), still_still]
    · rw [if_neg h1, if_neg h6, if_neg h2, if_neg h3, if_neg h1, if_neg h2, if_neg h3, ways_mk]
      by_cases h4 : k = 4
      · rw [if_pos h4]
        cases not
        · simp only [Bool.false_eq_true, if_false, h4]
          exact rel_and _ _ _ _ (by simp) hL rfl
        · simp only [if_true, h4]
          exact rel_or _ _ _ _ (by simp) hL rfl
      · have h5 : k = 5 := by omega
        rw [if_neg h4, if_pos h5]
        cases not
        · simp only [Bool.false_eq_true, if_false, h5]
          exact rel_or _ _ _ _ (by simp) hL rfl
        · simp only [if_true, h5]
          exact rel_and _ _ _ _ (by simp) hL rfl
theorem firstKey_still : ∀ (l : List Prd), firstKey (l.map Prd.still) = firstKey l := by
  intro l
  induction l with
  | nil => rfl
  | cons p r ih =>
    obtain ⟨k, c, o, v, n, l'⟩ := p
    rw [List.map_cons, still_mk, firstKey, firstKey, ih]
    rfl
theorem keys_same {m : Nat} {p : Prd} (hw : RW m p) : keyR p = keyN p := by
  have h := rel_form hw false
  unfold keyR keyN
  cases hx : waysN (inN false p) with
  | none => rw [hx] at h; have h : (formN false p).2 = false := h; rw [h]; rfl
  | some A =>
    rw [hx] at h
    obtain ⟨h1, h2⟩ : (formN false p).2 = true ∧ SL A = (formN false p).1.map (·.2) := h
    rw [h1]
    generalize (formN false p).1 = B at h2 ⊢
    have e := congrArg List.length h2
    simp only [SL, List.length_map] at e
    rcases A with _ | ⟨a, _ | ⟨a2, ra⟩⟩ <;> rcases B with _ | ⟨b, _ | ⟨b2, rb⟩⟩ <;> simp at e <;> (try rfl)
    simp only [SL, List.map_cons, List.map_nil, List.cons.injEq, and_true] at h2
    simp only [if_true]
    rw [← h2, firstKey_still]
theorem same_list : ∀ {a b : List Prd}, a.map Prd.still = b → ∀ (f : Prd → Prd), (∀ q, (f q.still).same q = true) → Prd.sames (b.map f) a = true := by
  intro a
  induction a with
  | nil => intro b h f _; subst h; rfl
  | cons q r ih =>
    intro b h f hf
    subst h
    rw [List.map_cons, List.map_cons, Prd.sames, hf q, ih rfl f hf]; rfl
theorem forms_same : ∀ {A B : Al}, SL A = B.map (·.2) → Prd.sames ((B.map andN).map Prd.still) (A.map refAnd) = true := by
  intro A
  induction A with
  | nil => intro B h; cases B with | nil => rfl | cons => simp [SL] at h
  | cons a r ih =>
    intro B h
    cases B with
    | nil => simp [SL] at h
    | cons b t =>
      simp only [SL, List.map_cons, List.cons.injEq] at h
      rw [List.map_cons, List.map_cons, List.map_cons, Prd.sames, ih h.2, Bool.and_true]
      rw [andN, still_mk, refAnd, Prd.same, List.map_map]
      have := same_list h.1 (fun q => q.still.still) (fun q => by rw [still_still, still_still]; exact same_still q)
      rw [show (Prd.still ∘ Prd.still) = fun q : Prd => q.still.still from rfl, this]
      rfl
theorem or_same {A B : Al} (h : SL A = B.map (·.2)) : (orN B).same (refOr A) = true := by
  unfold orN refOr
  rw [Prd.same, forms_same h]
  rfl
end Go.Proofs.Ytljjgccgmloajaa.D
