/- What the document says of predicates: which may be, and which are the same, on. -/
import Derived.Test.YtgbeijemcojnpaaR6
namespace Go.Proofs.Ytgbeijemcojnpaa.D
open Go Go.Den
set_option linter.unusedSimpArgs false
set_option linter.unusedVariables false
set_option maxRecDepth 20000
set_option maxHeartbeats 8000000
def plainB (c o : Int) (v : Val) : Bool := decide (c = 0) && (decide (o = 0) && zeroB v)
mutual
def rightB (s : List Col) : Prd → Bool
  | .mk k c o v _ l =>
    if k = 1 then plainB c o v && decide ((l.length : Int) = 0)
    else if k = 2 then decide ((l.length : Int) = 0) && (decide (0 ≤ c) && (decide (c < s.length) && (decide (1 ≤ o) && (decide (o ≤ 6) && (!v.null && valueB (kindAt s c) v)))))
    else if k = 3 then decide ((l.length : Int) = 0) && (decide (0 ≤ c) && (decide (c < s.length) && (decide (o = 0) && zeroB v)))
    else if k = 4 ∨ k = 5 ∨ k = 6 then
      if plainB c o v = false then false
      else if 8 < (l.length : Int) then false
      else if k = 6 ∧ ¬ (l.length : Int) = 1 then false
      else rightsB s l
    else false
def rightsB (s : List Col) : List Prd → Bool
  | [] => true
  | p :: r => rightB s p && rightsB s r
end
theorem right_spec {s : List Col} {p : Prd} (hs : s.length ≤ 20) (hp : Sl p) : dw E 45 [.agg [.sl 3 (s.map Col.pv)], .agg [.int .i64 p.kind, .int .i64 p.col, .int .i64 p.op, .bool p.val.null, .int .i64 p.val.kind, .int .i64 p.val.int, bl p.val.bytes, pl p.nil p.list]] [] = some (.bool (rightB s p), []) := by
  induction p using Prd.ind with
  | h k c o v n l ih =>
    obtain ⟨hb, hl, hq⟩ := hp
    have ih := fun q hm => ih q hm (hq q hm)
    simp only [Prd.kind, Prd.col, Prd.op, Prd.val, Prd.nil, Prd.list]
    have hz := zero_spec hb
    obtain ⟨q, hlq⟩ : ∃ q, l.length = q := ⟨_, rfl⟩
    rw [rightB]
    have hl0 : ((q : Int) = 0) = (q = 0) := propext (by omega)
    rcases (show ((c = 0) = False) ∨ ((c = 0) = True ∧ (o = 0) = False) ∨ ((c = 0) = True ∧ (o = 0) = True ∧ zeroB v = false) ∨ ((c = 0) = True ∧ (o = 0) = True ∧ zeroB v = true) by
      by_cases h1 : c = 0
      · by_cases h2 : o = 0
        · cases h3 : zeroB v
          · exact .inr (.inr (.inl ⟨eq_true h1, eq_true h2, rfl⟩))
          · exact .inr (.inr (.inr ⟨eq_true h1, eq_true h2, rfl⟩))
        · exact .inr (.inl ⟨eq_true h1, eq_false h2⟩)
      · exact .inl (eq_false h1)) with j0 | ⟨j0, j1⟩ | ⟨j0, j1, h0⟩ | ⟨j0, j1, h0⟩
    · have hP : plainB c o v = false := by unfold plainB; simp [j0]
      try rw [h0] at hz
      by_cases h1 : k = 1
      · subst h1
        rw [if_pos rfl, hP]
        rcases Classical.propComplete (q = 0) with i0 | i0 <;> (refine dw_in (fn := Try.f45) rfl body45 (by simp) ?_; simp -implicitDefEqProofs (maxSteps := 4000000) only [go_sem, go_sem_proc, ↓reduceIte, Nat.min_def, j0, hlq, hl0, i0])
      by_cases h2 : k = 2
      · subst h2
        rw [if_neg (by decide), if_pos rfl]
        have hV := Value_ref (kind := kindAt s c) hb
        by_cases hin : 0 ≤ c ∧ c < (s.length : Int)
        · obtain ⟨i, rfl⟩ := Int.eq_ofNat_of_zero_le hin.1
          obtain ⟨col, hcol, _, _⟩ := take_get (show i < s.length by omega)
          have hka : kindAt s (i : Int) = col.kind := by unfold kindAt; rw [Int.toNat_natCast, List.getD_eq_getElem?_getD, hcol]; rfl
          have c1 : ((i : Int) < s.length) = True := eq_true hin.2
          have c0 : ((0 : Int) ≤ i) = True := eq_true hin.1
          rw [hka] at hV ⊢
          refine dw_in (fn := Try.f45) rfl body45 (by simp) ?_
          rcases Classical.propComplete (q = 0) with i0 | i0 <;> rcases Classical.propComplete (1 ≤ o) with j2 | j2 <;> rcases Classical.propComplete (o ≤ 6) with j3 | j3 <;> cases hn : v.null <;> rw [hn] at hV hz <;> (simp -implicitDefEqProofs (maxSteps := 4000000) only [go_sem, go_sem_proc, ↓reduceIte, Nat.min_def, j0, c0, c1, i0, j2, j3, hn, hV, hcol, hl0, hlq, (show i < s.length by omega)]) <;> ((repeat' split) <;> (change _ = true; kernel_rfl))
        · refine dw_in (fn := Try.f45) rfl body45 (by simp) ?_
          rcases Classical.propComplete (q = 0) with i0 | i0
          · by_cases hc0 : 0 ≤ c
            · have hc1 := eq_false (show ¬ c < (s.length : Int) by omega)
              have hc0 := eq_true hc0
              simp -implicitDefEqProofs (maxSteps := 4000000) only [go_sem, go_sem_proc, ↓reduceIte, Nat.min_def, j0, i0, hl0, hlq, hc0, hc1] <;> ((repeat' split) <;> (change _ = true; kernel_rfl))
            · have hc0 := eq_false hc0
              simp -implicitDefEqProofs (maxSteps := 4000000) only [go_sem, go_sem_proc, ↓reduceIte, Nat.min_def, j0, i0, hl0, hlq, hc0] <;> ((repeat' split) <;> (change _ = true; kernel_rfl))
          · simp -implicitDefEqProofs (maxSteps := 4000000) only [go_sem, go_sem_proc, ↓reduceIte, Nat.min_def, j0, i0, hl0, hlq] <;> ((repeat' split) <;> (change _ = true; kernel_rfl))
      by_cases h3 : k = 3
      · subst h3
        rw [if_neg (by decide), if_neg (by decide), if_pos rfl]
        by_cases hin : 0 ≤ c ∧ c < (s.length : Int)
        · have c1 := eq_true hin.2
          have c0 := eq_true hin.1
          cases h9 : zeroB v <;> rw [h9] at hz <;> rcases Classical.propComplete (q = 0) with i0 | i0 <;> rcases Classical.propComplete (o = 0) with j9 | j9 <;> (refine dw_in (fn := Try.f45) rfl body45 (by simp) ?_; simp -implicitDefEqProofs (maxSteps := 4000000) only [go_sem, go_sem_proc, ↓reduceIte, Nat.min_def, j0, c0, c1, i0, j9, hz, hl0, hlq]) <;> ((repeat' split) <;> (change _ = true; kernel_rfl))
        · refine dw_in (fn := Try.f45) rfl body45 (by simp) ?_
          rcases Classical.propComplete (q = 0) with i0 | i0
          · by_cases hc0 : 0 ≤ c
            · have hc1 := eq_false (show ¬ c < (s.length : Int) by omega)
              have hc0 := eq_true hc0
              simp -implicitDefEqProofs (maxSteps := 4000000) only [go_sem, go_sem_proc, ↓reduceIte, Nat.min_def, j0, i0, hl0, hlq, hc0, hc1] <;> ((repeat' split) <;> (change _ = true; kernel_rfl))
            · have hc0 := eq_false hc0
              simp -implicitDefEqProofs (maxSteps := 4000000) only [go_sem, go_sem_proc, ↓reduceIte, Nat.min_def, j0, i0, hl0, hlq, hc0] <;> ((repeat' split) <;> (change _ = true; kernel_rfl))
          · simp -implicitDefEqProofs (maxSteps := 4000000) only [go_sem, go_sem_proc, ↓reduceIte, Nat.min_def, j0, i0, hl0, hlq] <;> ((repeat' split) <;> (change _ = true; kernel_rfl))
      by_cases h4 : k = 4 ∨ k = 5 ∨ k = 6
      · rw [if_neg h1, if_neg h2, if_neg h3, if_pos h4, hP]
        rw [if_pos rfl]
        rcases h4 with rfl | rfl | rfl <;> (refine dw_in (fn := Try.f45) rfl body45 (by simp) ?_; simp -implicitDefEqProofs (maxSteps := 4000000) only [go_sem, go_sem_proc, ↓reduceIte, Nat.min_def, j0])
      · rw [if_neg h1, if_neg h2, if_neg h3, if_neg h4]
        have g1 := eq_false h1
        have g2 := eq_false h2
        have g3 := eq_false h3
        have g4 := eq_false (show ¬ k = 4 by omega)
        have g5 := eq_false (show ¬ k = 5 by omega)
        have g6 := eq_false (show ¬ k = 6 by omega)
        refine dw_in (fn := Try.f45) rfl body45 (by simp) ?_
        simp -implicitDefEqProofs (maxSteps := 4000000) only [go_sem, go_sem_proc, ↓reduceIte, Nat.min_def, j0, g1, g2, g3, g4, g5, g6]
    · have hP : plainB c o v = false := by unfold plainB; simp [j0, j1]
      try rw [h0] at hz
      by_cases h1 : k = 1
      · subst h1
        rw [if_pos rfl, hP]
        rcases Classical.propComplete (q = 0) with i0 | i0 <;> (refine dw_in (fn := Try.f45) rfl body45 (by simp) ?_; simp -implicitDefEqProofs (maxSteps := 4000000) only [go_sem, go_sem_proc, ↓reduceIte, Nat.min_def, j0, j1, hlq, hl0, i0])
      by_cases h2 : k = 2
      · subst h2
        rw [if_neg (by decide), if_pos rfl]
        have hV := Value_ref (kind := kindAt s c) hb
        by_cases hin : 0 ≤ c ∧ c < (s.length : Int)
        · obtain ⟨i, rfl⟩ := Int.eq_ofNat_of_zero_le hin.1
          obtain ⟨col, hcol, _, _⟩ := take_get (show i < s.length by omega)
          have hka : kindAt s (i : Int) = col.kind := by unfold kindAt; rw [Int.toNat_natCast, List.getD_eq_getElem?_getD, hcol]; rfl
          have c1 : ((i : Int) < s.length) = True := eq_true hin.2
          have c0 : ((0 : Int) ≤ i) = True := eq_true hin.1
          rw [hka] at hV ⊢
          refine dw_in (fn := Try.f45) rfl body45 (by simp) ?_
          rcases Classical.propComplete (q = 0) with i0 | i0 <;> rcases Classical.propComplete (1 ≤ o) with j2 | j2 <;> rcases Classical.propComplete (o ≤ 6) with j3 | j3 <;> cases hn : v.null <;> rw [hn] at hV hz <;> (simp -implicitDefEqProofs (maxSteps := 4000000) only [go_sem, go_sem_proc, ↓reduceIte, Nat.min_def, j0, j1, c0, c1, i0, j2, j3, hn, hV, hcol, hl0, hlq, (show i < s.length by omega)]) <;> ((repeat' split) <;> (change _ = true; kernel_rfl))
        · refine dw_in (fn := Try.f45) rfl body45 (by simp) ?_
          rcases Classical.propComplete (q = 0) with i0 | i0
          · by_cases hc0 : 0 ≤ c
            · have hc1 := eq_false (show ¬ c < (s.length : Int) by omega)
              have hc0 := eq_true hc0
              simp -implicitDefEqProofs (maxSteps := 4000000) only [go_sem, go_sem_proc, ↓reduceIte, Nat.min_def, j0, j1, i0, hl0, hlq, hc0, hc1] <;> ((repeat' split) <;> (change _ = true; kernel_rfl))
            · have hc0 := eq_false hc0
              simp -implicitDefEqProofs (maxSteps := 4000000) only [go_sem, go_sem_proc, ↓reduceIte, Nat.min_def, j0, j1, i0, hl0, hlq, hc0] <;> ((repeat' split) <;> (change _ = true; kernel_rfl))
          · simp -implicitDefEqProofs (maxSteps := 4000000) only [go_sem, go_sem_proc, ↓reduceIte, Nat.min_def, j0, j1, i0, hl0, hlq] <;> ((repeat' split) <;> (change _ = true; kernel_rfl))
      by_cases h3 : k = 3
      · subst h3
        rw [if_neg (by decide), if_neg (by decide), if_pos rfl]
        by_cases hin : 0 ≤ c ∧ c < (s.length : Int)
        · have c1 := eq_true hin.2
          have c0 := eq_true hin.1
          cases h9 : zeroB v <;> rw [h9] at hz <;> rcases Classical.propComplete (q = 0) with i0 | i0 <;> rcases Classical.propComplete (o = 0) with j9 | j9 <;> (refine dw_in (fn := Try.f45) rfl body45 (by simp) ?_; simp -implicitDefEqProofs (maxSteps := 4000000) only [go_sem, go_sem_proc, ↓reduceIte, Nat.min_def, j0, j1, c0, c1, i0, j9, hz, hl0, hlq]) <;> ((repeat' split) <;> (change _ = true; kernel_rfl))
        · refine dw_in (fn := Try.f45) rfl body45 (by simp) ?_
          rcases Classical.propComplete (q = 0) with i0 | i0
          · by_cases hc0 : 0 ≤ c
            · have hc1 := eq_false (show ¬ c < (s.length : Int) by omega)
              have hc0 := eq_true hc0
              simp -implicitDefEqProofs (maxSteps := 4000000) only [go_sem, go_sem_proc, ↓reduceIte, Nat.min_def, j0, j1, i0, hl0, hlq, hc0, hc1] <;> ((repeat' split) <;> (change _ = true; kernel_rfl))
            · have hc0 := eq_false hc0
              simp -implicitDefEqProofs (maxSteps := 4000000) only [go_sem, go_sem_proc, ↓reduceIte, Nat.min_def, j0, j1, i0, hl0, hlq, hc0] <;> ((repeat' split) <;> (change _ = true; kernel_rfl))
          · simp -implicitDefEqProofs (maxSteps := 4000000) only [go_sem, go_sem_proc, ↓reduceIte, Nat.min_def, j0, j1, i0, hl0, hlq] <;> ((repeat' split) <;> (change _ = true; kernel_rfl))
      by_cases h4 : k = 4 ∨ k = 5 ∨ k = 6
      · rw [if_neg h1, if_neg h2, if_neg h3, if_pos h4, hP]
        rw [if_pos rfl]
        rcases h4 with rfl | rfl | rfl <;> (refine dw_in (fn := Try.f45) rfl body45 (by simp) ?_; simp -implicitDefEqProofs (maxSteps := 4000000) only [go_sem, go_sem_proc, ↓reduceIte, Nat.min_def, j0, j1])
      · rw [if_neg h1, if_neg h2, if_neg h3, if_neg h4]
        have g1 := eq_false h1
        have g2 := eq_false h2
        have g3 := eq_false h3
        have g4 := eq_false (show ¬ k = 4 by omega)
        have g5 := eq_false (show ¬ k = 5 by omega)
        have g6 := eq_false (show ¬ k = 6 by omega)
        refine dw_in (fn := Try.f45) rfl body45 (by simp) ?_
        simp -implicitDefEqProofs (maxSteps := 4000000) only [go_sem, go_sem_proc, ↓reduceIte, Nat.min_def, j0, j1, g1, g2, g3, g4, g5, g6]
    · have hP : plainB c o v = false := by unfold plainB; simp [j0, j1, hz, h0]
      try rw [h0] at hz
      by_cases h1 : k = 1
      · subst h1
        rw [if_pos rfl, hP]
        rcases Classical.propComplete (q = 0) with i0 | i0 <;> (refine dw_in (fn := Try.f45) rfl body45 (by simp) ?_; simp -implicitDefEqProofs (maxSteps := 4000000) only [go_sem, go_sem_proc, ↓reduceIte, Nat.min_def, j0, j1, hz, h0, hlq, hl0, i0])
      by_cases h2 : k = 2
      · subst h2
        rw [if_neg (by decide), if_pos rfl]
        have hV := Value_ref (kind := kindAt s c) hb
        by_cases hin : 0 ≤ c ∧ c < (s.length : Int)
        · obtain ⟨i, rfl⟩ := Int.eq_ofNat_of_zero_le hin.1
          obtain ⟨col, hcol, _, _⟩ := take_get (show i < s.length by omega)
          have hka : kindAt s (i : Int) = col.kind := by unfold kindAt; rw [Int.toNat_natCast, List.getD_eq_getElem?_getD, hcol]; rfl
          have c1 : ((i : Int) < s.length) = True := eq_true hin.2
          have c0 : ((0 : Int) ≤ i) = True := eq_true hin.1
          rw [hka] at hV ⊢
          refine dw_in (fn := Try.f45) rfl body45 (by simp) ?_
          rcases Classical.propComplete (q = 0) with i0 | i0 <;> rcases Classical.propComplete (1 ≤ o) with j2 | j2 <;> rcases Classical.propComplete (o ≤ 6) with j3 | j3 <;> cases hn : v.null <;> rw [hn] at hV hz <;> (simp -implicitDefEqProofs (maxSteps := 4000000) only [go_sem, go_sem_proc, ↓reduceIte, Nat.min_def, j0, j1, hz, h0, c0, c1, i0, j2, j3, hn, hV, hcol, hl0, hlq, (show i < s.length by omega)]) <;> ((repeat' split) <;> (change _ = true; kernel_rfl))
        · refine dw_in (fn := Try.f45) rfl body45 (by simp) ?_
          rcases Classical.propComplete (q = 0) with i0 | i0
          · by_cases hc0 : 0 ≤ c
            · have hc1 := eq_false (show ¬ c < (s.length : Int) by omega)
              have hc0 := eq_true hc0
              simp -implicitDefEqProofs (maxSteps := 4000000) only [go_sem, go_sem_proc, ↓reduceIte, Nat.min_def, j0, j1, hz, h0, i0, hl0, hlq, hc0, hc1] <;> ((repeat' split) <;> (change _ = true; kernel_rfl))
            · have hc0 := eq_false hc0
              simp -implicitDefEqProofs (maxSteps := 4000000) only [go_sem, go_sem_proc, ↓reduceIte, Nat.min_def, j0, j1, hz, h0, i0, hl0, hlq, hc0] <;> ((repeat' split) <;> (change _ = true; kernel_rfl))
          · simp -implicitDefEqProofs (maxSteps := 4000000) only [go_sem, go_sem_proc, ↓reduceIte, Nat.min_def, j0, j1, hz, h0, i0, hl0, hlq] <;> ((repeat' split) <;> (change _ = true; kernel_rfl))
      by_cases h3 : k = 3
      · subst h3
        rw [if_neg (by decide), if_neg (by decide), if_pos rfl]
        by_cases hin : 0 ≤ c ∧ c < (s.length : Int)
        · have c1 := eq_true hin.2
          have c0 := eq_true hin.1
          rw [h0]
          rcases Classical.propComplete (q = 0) with i0 | i0 <;> rcases Classical.propComplete (o = 0) with j9 | j9 <;> (refine dw_in (fn := Try.f45) rfl body45 (by simp) ?_; simp -implicitDefEqProofs (maxSteps := 4000000) only [go_sem, go_sem_proc, ↓reduceIte, Nat.min_def, j0, j1, hz, c0, c1, i0, j9, hz, hl0, hlq]) <;> ((repeat' split) <;> (change _ = true; kernel_rfl))
        · refine dw_in (fn := Try.f45) rfl body45 (by simp) ?_
          rcases Classical.propComplete (q = 0) with i0 | i0
          · by_cases hc0 : 0 ≤ c
            · have hc1 := eq_false (show ¬ c < (s.length : Int) by omega)
              have hc0 := eq_true hc0
              simp -implicitDefEqProofs (maxSteps := 4000000) only [go_sem, go_sem_proc, ↓reduceIte, Nat.min_def, j0, j1, hz, h0, i0, hl0, hlq, hc0, hc1] <;> ((repeat' split) <;> (change _ = true; kernel_rfl))
            · have hc0 := eq_false hc0
              simp -implicitDefEqProofs (maxSteps := 4000000) only [go_sem, go_sem_proc, ↓reduceIte, Nat.min_def, j0, j1, hz, h0, i0, hl0, hlq, hc0] <;> ((repeat' split) <;> (change _ = true; kernel_rfl))
          · simp -implicitDefEqProofs (maxSteps := 4000000) only [go_sem, go_sem_proc, ↓reduceIte, Nat.min_def, j0, j1, hz, h0, i0, hl0, hlq] <;> ((repeat' split) <;> (change _ = true; kernel_rfl))
      by_cases h4 : k = 4 ∨ k = 5 ∨ k = 6
      · rw [if_neg h1, if_neg h2, if_neg h3, if_pos h4, hP]
        rw [if_pos rfl]
        rcases h4 with rfl | rfl | rfl <;> (refine dw_in (fn := Try.f45) rfl body45 (by simp) ?_; simp -implicitDefEqProofs (maxSteps := 4000000) only [go_sem, go_sem_proc, ↓reduceIte, Nat.min_def, j0, j1, hz, h0])
      · rw [if_neg h1, if_neg h2, if_neg h3, if_neg h4]
        have g1 := eq_false h1
        have g2 := eq_false h2
        have g3 := eq_false h3
        have g4 := eq_false (show ¬ k = 4 by omega)
        have g5 := eq_false (show ¬ k = 5 by omega)
        have g6 := eq_false (show ¬ k = 6 by omega)
        refine dw_in (fn := Try.f45) rfl body45 (by simp) ?_
        simp -implicitDefEqProofs (maxSteps := 4000000) only [go_sem, go_sem_proc, ↓reduceIte, Nat.min_def, j0, j1, hz, h0, g1, g2, g3, g4, g5, g6]
    · have hP : plainB c o v = true := by unfold plainB; simp [j0, j1, hz, h0]
      try rw [h0] at hz
      by_cases h1 : k = 1
      · subst h1
        rw [if_pos rfl, hP]
        rcases Classical.propComplete (q = 0) with i0 | i0 <;> (refine dw_in (fn := Try.f45) rfl body45 (by simp) ?_; simp -implicitDefEqProofs (maxSteps := 4000000) only [go_sem, go_sem_proc, ↓reduceIte, Nat.min_def, j0, j1, hz, h0, hlq, hl0, i0])
      by_cases h2 : k = 2
      · subst h2
        rw [if_neg (by decide), if_pos rfl]
        have hV := Value_ref (kind := kindAt s c) hb
        by_cases hin : 0 ≤ c ∧ c < (s.length : Int)
        · obtain ⟨i, rfl⟩ := Int.eq_ofNat_of_zero_le hin.1
          obtain ⟨col, hcol, _, _⟩ := take_get (show i < s.length by omega)
          have hka : kindAt s (i : Int) = col.kind := by unfold kindAt; rw [Int.toNat_natCast, List.getD_eq_getElem?_getD, hcol]; rfl
          have c1 : ((i : Int) < s.length) = True := eq_true hin.2
          have c0 : ((0 : Int) ≤ i) = True := eq_true hin.1
          rw [hka] at hV ⊢
          refine dw_in (fn := Try.f45) rfl body45 (by simp) ?_
          rcases Classical.propComplete (q = 0) with i0 | i0 <;> rcases Classical.propComplete (1 ≤ o) with j2 | j2 <;> rcases Classical.propComplete (o ≤ 6) with j3 | j3 <;> cases hn : v.null <;> rw [hn] at hV hz <;> (simp -implicitDefEqProofs (maxSteps := 4000000) only [go_sem, go_sem_proc, ↓reduceIte, Nat.min_def, j0, j1, hz, h0, c0, c1, i0, j2, j3, hn, hV, hcol, hl0, hlq, (show i < s.length by omega)]) <;> ((repeat' split) <;> (change _ = true; kernel_rfl))
        · refine dw_in (fn := Try.f45) rfl body45 (by simp) ?_
          rcases Classical.propComplete (q = 0) with i0 | i0
          · by_cases hc0 : 0 ≤ c
            · have hc1 := eq_false (show ¬ c < (s.length : Int) by omega)
              have hc0 := eq_true hc0
              simp -implicitDefEqProofs (maxSteps := 4000000) only [go_sem, go_sem_proc, ↓reduceIte, Nat.min_def, j0, j1, hz, h0, i0, hl0, hlq, hc0, hc1] <;> ((repeat' split) <;> (change _ = true; kernel_rfl))
            · have hc0 := eq_false hc0
              simp -implicitDefEqProofs (maxSteps := 4000000) only [go_sem, go_sem_proc, ↓reduceIte, Nat.min_def, j0, j1, hz, h0, i0, hl0, hlq, hc0] <;> ((repeat' split) <;> (change _ = true; kernel_rfl))
          · simp -implicitDefEqProofs (maxSteps := 4000000) only [go_sem, go_sem_proc, ↓reduceIte, Nat.min_def, j0, j1, hz, h0, i0, hl0, hlq] <;> ((repeat' split) <;> (change _ = true; kernel_rfl))
      by_cases h3 : k = 3
      · subst h3
        rw [if_neg (by decide), if_neg (by decide), if_pos rfl]
        by_cases hin : 0 ≤ c ∧ c < (s.length : Int)
        · have c1 := eq_true hin.2
          have c0 := eq_true hin.1
          rw [h0]
          rcases Classical.propComplete (q = 0) with i0 | i0 <;> rcases Classical.propComplete (o = 0) with j9 | j9 <;> (refine dw_in (fn := Try.f45) rfl body45 (by simp) ?_; simp -implicitDefEqProofs (maxSteps := 4000000) only [go_sem, go_sem_proc, ↓reduceIte, Nat.min_def, j0, j1, hz, c0, c1, i0, j9, hz, hl0, hlq]) <;> ((repeat' split) <;> (change _ = true; kernel_rfl))
        · refine dw_in (fn := Try.f45) rfl body45 (by simp) ?_
          rcases Classical.propComplete (q = 0) with i0 | i0
          · by_cases hc0 : 0 ≤ c
            · have hc1 := eq_false (show ¬ c < (s.length : Int) by omega)
              have hc0 := eq_true hc0
              simp -implicitDefEqProofs (maxSteps := 4000000) only [go_sem, go_sem_proc, ↓reduceIte, Nat.min_def, j0, j1, hz, h0, i0, hl0, hlq, hc0, hc1] <;> ((repeat' split) <;> (change _ = true; kernel_rfl))
            · have hc0 := eq_false hc0
              simp -implicitDefEqProofs (maxSteps := 4000000) only [go_sem, go_sem_proc, ↓reduceIte, Nat.min_def, j0, j1, hz, h0, i0, hl0, hlq, hc0] <;> ((repeat' split) <;> (change _ = true; kernel_rfl))
          · simp -implicitDefEqProofs (maxSteps := 4000000) only [go_sem, go_sem_proc, ↓reduceIte, Nat.min_def, j0, j1, hz, h0, i0, hl0, hlq] <;> ((repeat' split) <;> (change _ = true; kernel_rfl))
      by_cases h4 : k = 4 ∨ k = 5 ∨ k = 6
      · rw [if_neg h1, if_neg h2, if_neg h3, if_pos h4, hP]
        rw [if_neg (by decide)]
        clear hlq hl0
        have hc0 := of_eq_true j0
        have ho0 := of_eq_true j1
        clear j0 j1
        subst hc0
        subst ho0
        by_cases h8 : 8 < (l.length : Int)
        · rw [if_pos h8]
          rcases h4 with rfl | rfl | rfl <;> (refine dw_in (fn := Try.f45) rfl body45 (by simp) ?_; simp -implicitDefEqProofs (maxSteps := 4000000) (disch := omega) only [go_sem, go_sem_proc, dr, Nat.min_def, ↓Nat.reduceBEq, ↓Nat.reduceEqDiff, ↓Nat.reduceLT, ↓Nat.reduceLeDiff, ↓Int.reduceEq, ↓Int.reduceLT, ↓Int.reduceLE, ↓reduceIte, hz, h0])
        rw [if_neg h8]
        have h8 : (l.length : Int) ≤ 8 := by omega
        rcases h4 with rfl | rfl | rfl
        · rw [if_neg (by omega)]
          refine dw_in (fn := Try.f45) rfl body45 (by simp) ?_
          simp -implicitDefEqProofs (maxSteps := 4000000) (disch := omega) only [go_sem, go_sem_proc, dr, Nat.min_def, ↓Nat.reduceBEq, ↓Nat.reduceEqDiff, ↓Nat.reduceLT, ↓Nat.reduceLeDiff, ↓Int.reduceEq, ↓Int.reduceLT, ↓Int.reduceLE, ↓reduceIte, hz, h0]
          refine runs_any (fun i : Nat => (⟨[(2, .pb 1048578 0), (3, .pb 1048579 0), (7, .int .i64 i)], [(1048578, some ⟨true, .box [.sl 3 (s.map Col.pv)]⟩), (1048579, some ⟨true, .box [.int .i64 4, .int .i64 0, .int .i64 0, .bool v.null, .int .i64 v.kind, .int .i64 v.int, bl v.bytes, pl n l]⟩)], 1⟩ : St)) (fun i => l.length - i) 0
            (fun i => i ≤ l.length ∧ rightsB s l = rightsB s (l.drop i)) ⟨Nat.zero_le _, by simp⟩ ?_ ?_
          · simp -implicitDefEqProofs (maxSteps := 4000000) (disch := omega) only [go_sem, go_sem_proc, dr, Nat.min_def, ↓Nat.reduceBEq, ↓Nat.reduceEqDiff, ↓Nat.reduceLT, ↓Nat.reduceLeDiff, ↓Int.reduceEq, ↓Int.reduceLT, ↓Int.reduceLE, ↓reduceIte]
          · rintro i ⟨hi, he⟩
            by_cases hlt : i < l.length
            · obtain ⟨x, hx, hxm, _⟩ := take_get hlt
              have hd : l.drop i = x :: l.drop (i + 1) := by rw [List.drop_eq_getElem_cons hlt, (List.getElem?_eq_some_iff.1 hx).2]
              rw [hd, rightsB] at he
              have hev := ih x hxm
              cases hr : rightB s x with
              | true =>
                rw [hr, Bool.true_and] at he
                rw [hr] at hev
                simp -implicitDefEqProofs (maxSteps := 4000000) (disch := omega) only [go_sem, go_sem_proc, dr, Nat.min_def, ↓Nat.reduceBEq, ↓Nat.reduceEqDiff, ↓Nat.reduceLT, ↓Nat.reduceLeDiff, ↓Int.reduceEq, ↓Int.reduceLT, ↓Int.reduceLE, ↓reduceIte, hx, pl_get hlt, pv_eq, hev]
                refine ⟨by ((repeat' split) <;> (change _ = true; kernel_rfl)), ?_⟩
                exact ⟨i + 1, rfl, ⟨by omega, he⟩, by show l.length - (i + 1) < l.length - i; omega⟩
              | false =>
                rw [hr, Bool.false_and] at he
                rw [hr] at hev
                simp -implicitDefEqProofs (maxSteps := 4000000) (disch := omega) only [go_sem, go_sem_proc, dr, Nat.min_def, ↓Nat.reduceBEq, ↓Nat.reduceEqDiff, ↓Nat.reduceLT, ↓Nat.reduceLeDiff, ↓Int.reduceEq, ↓Int.reduceLT, ↓Int.reduceLE, ↓reduceIte, hx, pl_get hlt, pv_eq, hev, he]
                ((repeat' split) <;> (change _ = true; kernel_rfl))
            · have hd : l.drop i = [] := List.drop_eq_nil_of_le (by omega)
              rw [hd, rightsB] at he
              simp -implicitDefEqProofs (maxSteps := 4000000) (disch := omega) only [go_sem, go_sem_proc, dr, Nat.min_def, ↓Nat.reduceBEq, ↓Nat.reduceEqDiff, ↓Nat.reduceLT, ↓Nat.reduceLeDiff, ↓Int.reduceEq, ↓Int.reduceLT, ↓Int.reduceLE, ↓reduceIte, he]
        · rw [if_neg (by omega)]
          refine dw_in (fn := Try.f45) rfl body45 (by simp) ?_
          simp -implicitDefEqProofs (maxSteps := 4000000) (disch := omega) only [go_sem, go_sem_proc, dr, Nat.min_def, ↓Nat.reduceBEq, ↓Nat.reduceEqDiff, ↓Nat.reduceLT, ↓Nat.reduceLeDiff, ↓Int.reduceEq, ↓Int.reduceLT, ↓Int.reduceLE, ↓reduceIte, hz, h0]
          refine runs_any (fun i : Nat => (⟨[(2, .pb 1048578 0), (3, .pb 1048579 0), (7, .int .i64 i)], [(1048578, some ⟨true, .box [.sl 3 (s.map Col.pv)]⟩), (1048579, some ⟨true, .box [.int .i64 5, .int .i64 0, .int .i64 0, .bool v.null, .int .i64 v.kind, .int .i64 v.int, bl v.bytes, pl n l]⟩)], 1⟩ : St)) (fun i => l.length - i) 0
            (fun i => i ≤ l.length ∧ rightsB s l = rightsB s (l.drop i)) ⟨Nat.zero_le _, by simp⟩ ?_ ?_
          · simp -implicitDefEqProofs (maxSteps := 4000000) (disch := omega) only [go_sem, go_sem_proc, dr, Nat.min_def, ↓Nat.reduceBEq, ↓Nat.reduceEqDiff, ↓Nat.reduceLT, ↓Nat.reduceLeDiff, ↓Int.reduceEq, ↓Int.reduceLT, ↓Int.reduceLE, ↓reduceIte]
          · rintro i ⟨hi, he⟩
            by_cases hlt : i < l.length
            · obtain ⟨x, hx, hxm, _⟩ := take_get hlt
              have hd : l.drop i = x :: l.drop (i + 1) := by rw [List.drop_eq_getElem_cons hlt, (List.getElem?_eq_some_iff.1 hx).2]
              rw [hd, rightsB] at he
              have hev := ih x hxm
              cases hr : rightB s x with
              | true =>
                rw [hr, Bool.true_and] at he
                rw [hr] at hev
                simp -implicitDefEqProofs (maxSteps := 4000000) (disch := omega) only [go_sem, go_sem_proc, dr, Nat.min_def, ↓Nat.reduceBEq, ↓Nat.reduceEqDiff, ↓Nat.reduceLT, ↓Nat.reduceLeDiff, ↓Int.reduceEq, ↓Int.reduceLT, ↓Int.reduceLE, ↓reduceIte, hx, pl_get hlt, pv_eq, hev]
                refine ⟨by ((repeat' split) <;> (change _ = true; kernel_rfl)), ?_⟩
                exact ⟨i + 1, rfl, ⟨by omega, he⟩, by show l.length - (i + 1) < l.length - i; omega⟩
              | false =>
                rw [hr, Bool.false_and] at he
                rw [hr] at hev
                simp -implicitDefEqProofs (maxSteps := 4000000) (disch := omega) only [go_sem, go_sem_proc, dr, Nat.min_def, ↓Nat.reduceBEq, ↓Nat.reduceEqDiff, ↓Nat.reduceLT, ↓Nat.reduceLeDiff, ↓Int.reduceEq, ↓Int.reduceLT, ↓Int.reduceLE, ↓reduceIte, hx, pl_get hlt, pv_eq, hev, he]
                ((repeat' split) <;> (change _ = true; kernel_rfl))
            · have hd : l.drop i = [] := List.drop_eq_nil_of_le (by omega)
              rw [hd, rightsB] at he
              simp -implicitDefEqProofs (maxSteps := 4000000) (disch := omega) only [go_sem, go_sem_proc, dr, Nat.min_def, ↓Nat.reduceBEq, ↓Nat.reduceEqDiff, ↓Nat.reduceLT, ↓Nat.reduceLeDiff, ↓Int.reduceEq, ↓Int.reduceLT, ↓Int.reduceLE, ↓reduceIte, he]
        · by_cases h61 : (l.length : Int) = 1
          · rw [if_neg (by omega)]
            refine dw_in (fn := Try.f45) rfl body45 (by simp) ?_
            simp -implicitDefEqProofs (maxSteps := 4000000) (disch := omega) only [go_sem, go_sem_proc, dr, Nat.min_def, ↓Nat.reduceBEq, ↓Nat.reduceEqDiff, ↓Nat.reduceLT, ↓Nat.reduceLeDiff, ↓Int.reduceEq, ↓Int.reduceLT, ↓Int.reduceLE, ↓reduceIte, hz, h0]
            refine runs_any (fun i : Nat => (⟨[(2, .pb 1048578 0), (3, .pb 1048579 0), (7, .int .i64 i)], [(1048578, some ⟨true, .box [.sl 3 (s.map Col.pv)]⟩), (1048579, some ⟨true, .box [.int .i64 6, .int .i64 0, .int .i64 0, .bool v.null, .int .i64 v.kind, .int .i64 v.int, bl v.bytes, pl n l]⟩)], 1⟩ : St)) (fun i => l.length - i) 0
              (fun i => i ≤ l.length ∧ rightsB s l = rightsB s (l.drop i)) ⟨Nat.zero_le _, by simp⟩ ?_ ?_
            · simp -implicitDefEqProofs (maxSteps := 4000000) (disch := omega) only [go_sem, go_sem_proc, dr, Nat.min_def, ↓Nat.reduceBEq, ↓Nat.reduceEqDiff, ↓Nat.reduceLT, ↓Nat.reduceLeDiff, ↓Int.reduceEq, ↓Int.reduceLT, ↓Int.reduceLE, ↓reduceIte]
            · rintro i ⟨hi, he⟩
              by_cases hlt : i < l.length
              · obtain ⟨x, hx, hxm, _⟩ := take_get hlt
                have hd : l.drop i = x :: l.drop (i + 1) := by rw [List.drop_eq_getElem_cons hlt, (List.getElem?_eq_some_iff.1 hx).2]
                rw [hd, rightsB] at he
                have hev := ih x hxm
                cases hr : rightB s x with
                | true =>
                  rw [hr, Bool.true_and] at he
                  rw [hr] at hev
                  simp -implicitDefEqProofs (maxSteps := 4000000) (disch := omega) only [go_sem, go_sem_proc, dr, Nat.min_def, ↓Nat.reduceBEq, ↓Nat.reduceEqDiff, ↓Nat.reduceLT, ↓Nat.reduceLeDiff, ↓Int.reduceEq, ↓Int.reduceLT, ↓Int.reduceLE, ↓reduceIte, hx, pl_get hlt, pv_eq, hev]
                  refine ⟨by ((repeat' split) <;> (change _ = true; kernel_rfl)), ?_⟩
                  exact ⟨i + 1, rfl, ⟨by omega, he⟩, by show l.length - (i + 1) < l.length - i; omega⟩
                | false =>
                  rw [hr, Bool.false_and] at he
                  rw [hr] at hev
                  simp -implicitDefEqProofs (maxSteps := 4000000) (disch := omega) only [go_sem, go_sem_proc, dr, Nat.min_def, ↓Nat.reduceBEq, ↓Nat.reduceEqDiff, ↓Nat.reduceLT, ↓Nat.reduceLeDiff, ↓Int.reduceEq, ↓Int.reduceLT, ↓Int.reduceLE, ↓reduceIte, hx, pl_get hlt, pv_eq, hev, he]
                  ((repeat' split) <;> (change _ = true; kernel_rfl))
              · have hd : l.drop i = [] := List.drop_eq_nil_of_le (by omega)
                rw [hd, rightsB] at he
                simp -implicitDefEqProofs (maxSteps := 4000000) (disch := omega) only [go_sem, go_sem_proc, dr, Nat.min_def, ↓Nat.reduceBEq, ↓Nat.reduceEqDiff, ↓Nat.reduceLT, ↓Nat.reduceLeDiff, ↓Int.reduceEq, ↓Int.reduceLT, ↓Int.reduceLE, ↓reduceIte, he]
          · rw [if_pos ⟨rfl, h61⟩]
            have h61' : (l.length : Int) = 0 ∨ 1 < (l.length : Int) := by omega
            clear h61
            refine dw_in (fn := Try.f45) rfl body45 (by simp) ?_
            rcases h61' with h61 | h61
            · simp -implicitDefEqProofs (maxSteps := 4000000) (disch := omega) only [go_sem, go_sem_proc, dr, Nat.min_def, ↓Nat.reduceBEq, ↓Nat.reduceEqDiff, ↓Nat.reduceLT, ↓Nat.reduceLeDiff, ↓Int.reduceEq, ↓Int.reduceLT, ↓Int.reduceLE, ↓reduceIte, hz, h0]
            · simp -implicitDefEqProofs (maxSteps := 4000000) (disch := omega) only [go_sem, go_sem_proc, dr, Nat.min_def, ↓Nat.reduceBEq, ↓Nat.reduceEqDiff, ↓Nat.reduceLT, ↓Nat.reduceLeDiff, ↓Int.reduceEq, ↓Int.reduceLT, ↓Int.reduceLE, ↓reduceIte, hz, h0]
      · rw [if_neg h1, if_neg h2, if_neg h3, if_neg h4]
        have g1 := eq_false h1
        have g2 := eq_false h2
        have g3 := eq_false h3
        have g4 := eq_false (show ¬ k = 4 by omega)
        have g5 := eq_false (show ¬ k = 5 by omega)
        have g6 := eq_false (show ¬ k = 6 by omega)
        refine dw_in (fn := Try.f45) rfl body45 (by simp) ?_
        simp -implicitDefEqProofs (maxSteps := 4000000) only [go_sem, go_sem_proc, ↓reduceIte, Nat.min_def, j0, j1, hz, h0, g1, g2, g3, g4, g5, g6]

end Go.Proofs.Ytgbeijemcojnpaa.D
