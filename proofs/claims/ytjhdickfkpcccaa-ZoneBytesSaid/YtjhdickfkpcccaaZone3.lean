/- Whether rows of a zone may be meant. -/
import Derived.Test.YtjhdickfkpcccaaZone2
import Derived.Test.YtjhdickfkpcccaaNorm7
namespace Go.Proofs.Ytjhdickfkpcccaa.D
open Go Go.Den
set_option linter.unusedSimpArgs false
set_option linter.unusedVariables false
set_option maxRecDepth 20000
set_option maxHeartbeats 8000000
def compN (o : Int) (v : Val) (z : Zn) : Bool :=
  if z.mn.null = true then false
  else if o = 1 then decide (cmpV z.mn v ≤ 0) && decide (0 ≤ cmpV z.mx v)
  else if o = 2 then !decide (cmpV z.mn v = 0) || !decide (cmpV z.mx v = 0)
  else if o = 3 ∨ o = 4 then holdsOp o (cmpV z.mn v)
  else holdsOp o (cmpV z.mx v)
theorem cmpI_range (a b : Int) : -1 ≤ cmpI a b ∧ cmpI a b ≤ 1 := by unfold cmpI; repeat' split
                                                                    all_goals omega
theorem compared_spec {k c o : Int} {v : Val} {n : Bool} {l : List Prd} {z : Zn} : dw E 22 [.agg [.int .i64 k, .int .i64 c, .int .i64 o, .bool v.null, .int .i64 v.kind, .int .i64 v.int, bl v.bytes, pl n l], .agg [.int .i64 z.nulls, .bool z.mn.null, .int .i64 z.mn.kind, .int .i64 z.mn.int, bl z.mn.bytes, .bool z.mx.null, .int .i64 z.mx.kind, .int .i64 z.mx.int, bl z.mx.bytes]] [] =
    some (.bool (compN o v z), []) := by
  refine dw_in (fn := Try.f22) rfl body22 (by simp) ?_
  have c1 := Compare_spec (nl := z.mn.null) (k := z.mn.kind) (i := z.mn.int) (o := z.mn.bytes) (ml := v.null) (l := v.kind) (j := v.int) (q := v.bytes)
  have c2 := Compare_spec (nl := z.mx.null) (k := z.mx.kind) (i := z.mx.int) (o := z.mx.bytes) (ml := v.null) (l := v.kind) (j := v.int) (q := v.bytes)
  rw [show cmpV ⟨z.mn.null, z.mn.kind, z.mn.int, z.mn.bytes⟩ ⟨v.null, v.kind, v.int, v.bytes⟩ = cmpV z.mn v from rfl] at c1
  rw [show cmpV ⟨z.mx.null, z.mx.kind, z.mx.int, z.mx.bytes⟩ ⟨v.null, v.kind, v.int, v.bytes⟩ = cmpV z.mx v from rfl] at c2
  unfold compN
  generalize cmpV z.mn v = a at c1 ⊢
  generalize cmpV z.mx v = b at c2 ⊢
  cases hz : z.mn.null with
  | true =>
    rw [hz] at c1
    simp -implicitDefEqProofs (maxSteps := 4000000) only [go_sem, go_sem_proc, ↓reduceIte, Nat.min_def, c1, c2, hz]
    first | done | ((repeat' split) <;> (change _ = true; kernel_rfl))
  | false =>
    rw [hz] at c1
    by_cases h1 : o = 1
    · have h1 := eq_true h1
      rcases Classical.propComplete (a ≤ 0) with j1 | j1 <;> rcases Classical.propComplete (0 ≤ b) with j2 | j2 <;> simp -implicitDefEqProofs (maxSteps := 4000000) only [go_sem, go_sem_proc, ↓reduceIte, Nat.min_def, c1, c2, hz, h1, j1, j2] <;> (first | done | ((repeat' split) <;> (change _ = true; kernel_rfl)))
    by_cases h2 : o = 2
    · subst h2
      rcases Classical.propComplete (a = 0) with j1 | j1 <;> rcases Classical.propComplete (b = 0) with j2 | j2 <;> simp -implicitDefEqProofs (maxSteps := 4000000) only [go_sem, go_sem_proc, ↓reduceIte, Nat.min_def, c1, c2, hz, j1, j2] <;> (first | done | ((repeat' split) <;> (change _ = true; kernel_rfl)))
    have h1 := eq_false h1
    have h2 := eq_false h2
    by_cases h3 : o = 3
    · subst h3
      simp -implicitDefEqProofs (maxSteps := 4000000) only [go_sem, go_sem_proc, ↓reduceIte, Nat.min_def, c1, c2, hz, Holds_pred]
      first | done | ((repeat' split) <;> (change _ = true; kernel_rfl))
    by_cases h4 : o = 4
    · subst h4
      simp -implicitDefEqProofs (maxSteps := 4000000) only [go_sem, go_sem_proc, ↓reduceIte, Nat.min_def, c1, c2, hz, Holds_pred]
      first | done | ((repeat' split) <;> (change _ = true; kernel_rfl))
    have h3 := eq_false h3
    have h4 := eq_false h4
    simp -implicitDefEqProofs (maxSteps := 4000000) only [go_sem, go_sem_proc, ↓reduceIte, Nat.min_def, c1, c2, hz, h1, h2, h3, h4, Holds_pred]
    first | done | ((repeat' split) <;> (change _ = true; kernel_rfl))
/-- may it be so of one? -/
def possA (k c o : Int) (v : Val) (not : Bool) (zs : List Zn) (count : Int) : Bool :=
  if c < 0 then true
  else match zs[c.toNat]? with
    | none => true
    | some z => if k = 2 then compN o v z else if not then decide (z.nulls < count) else decide (0 < z.nulls)
def possN (zs : List Zn) (count : Int) (p : Prd) : Bool :=
  if p.kind = 6 then (match p.list with | [] => possA p.kind p.col p.op p.val true zs count | q :: _ => possA q.kind q.col q.op q.val true zs count)
  else possA p.kind p.col p.op p.val false zs count
theorem possN_mk (zs : List Zn) (count k c o : Int) (v : Val) (n : Bool) (l : List Prd) : possN zs count (.mk k c o v n l) = if k = 6 then (match l with | [] => possA k c o v true zs count | q :: _ => possA q.kind q.col q.op q.val true zs count) else possA k c o v false zs count := rfl
theorem possible_spec {zs : List Zn} {count : Int} {p : Prd} (hz : zs.length ≤ 1000) : dw E 15 [.agg [.int .i64 p.kind, .int .i64 p.col, .int .i64 p.op, .bool p.val.null, .int .i64 p.val.kind, .int .i64 p.val.int, bl p.val.bytes, pl p.nil p.list], .sl 9 (zs.map Zn.pv), .int .i64 count] [] = some (.bool (possN zs count p), []) := by
  obtain ⟨k, c, o, v, n, l⟩ := p
  simp only [Prd.kind, Prd.col, Prd.op, Prd.val, Prd.nil, Prd.list]
  rw [possN_mk]
  have key : ∀ (k c o : Int) (v : Val) (n : Bool) (l : List Prd) (not : Bool), c < 0 ∨ (zs.length : Int) ≤ c → possA k c o v not zs count = true := fun k c o v n l not h => by
    unfold possA
    split
    · rfl
    · rw [List.getElem?_eq_none (by omega)]
  have key2 : ∀ (k o : Int) (i : Nat) (z : Zn) (v : Val) (not : Bool), zs[i]? = some z → possA k (i : Int) o v not zs count = if k = 2 then compN o v z else if not then decide (z.nulls < count) else decide (0 < z.nulls) := fun k o i z v not h => by
    unfold possA
    rw [if_neg (by omega), Int.toNat_natCast, h]
  have hC := fun (k c o : Int) (v : Val) (n : Bool) (l : List Prd) (z : Zn) => compared_spec (k := k) (c := c) (o := o) (v := v) (n := n) (l := l) (z := z)
  by_cases h6 : k = 6
  · subst h6
    rw [if_pos rfl]
    cases l with
    | nil =>
      dsimp only
      by_cases hin : c < 0 ∨ (zs.length : Int) ≤ c
      · rw [key _ _ _ _ n [] _ hin]
        refine dw_in (fn := Try.f15) rfl body15 (by simp) ?_
        rcases hin with hin | hin
        · cases n <;> simp -implicitDefEqProofs (maxSteps := 4000000) (disch := omega) only [go_sem, go_sem_proc, dr, Nat.min_def, ↓Nat.reduceBEq, ↓Nat.reduceEqDiff, ↓Nat.reduceLT, ↓Nat.reduceLeDiff, ↓Int.reduceEq, ↓Int.reduceLT, ↓Int.reduceLE, ↓reduceIte, pl, lfl]
        · by_cases hc0 : c < 0
          · omega
          · have hc0 : 0 ≤ c := by omega
            cases n <;> simp -implicitDefEqProofs (maxSteps := 4000000) (disch := omega) only [go_sem, go_sem_proc, dr, Nat.min_def, ↓Nat.reduceBEq, ↓Nat.reduceEqDiff, ↓Nat.reduceLT, ↓Nat.reduceLeDiff, ↓Int.reduceEq, ↓Int.reduceLT, ↓Int.reduceLE, ↓reduceIte, pl, lfl]
      · obtain ⟨i, rfl⟩ := Int.eq_ofNat_of_zero_le (a := c) (by omega)
        obtain ⟨z, hzi, _, _⟩ := take_get (show i < zs.length by omega)
        rw [key2 _ _ _ _ _ _ hzi]
        have hi : i < zs.length := by omega
        clear hin key key2
        refine dw_in (fn := Try.f15) rfl body15 (by simp) ?_
        cases n <;> simp -implicitDefEqProofs (maxSteps := 4000000) (disch := omega) only [go_sem, go_sem_proc, dr, Nat.min_def, ↓Nat.reduceBEq, ↓Nat.reduceEqDiff, ↓Nat.reduceLT, ↓Nat.reduceLeDiff, ↓Int.reduceEq, ↓Int.reduceLT, ↓Int.reduceLE, ↓reduceIte, pl, lfl, hzi, Zn.pv]
    | cons q r =>
      dsimp only
      by_cases hin : q.col < 0 ∨ (zs.length : Int) ≤ q.col
      · rw [key q.kind _ _ _ n [] _ hin]
        refine dw_in (fn := Try.f15) rfl body15 (by simp) ?_
        rcases hin with hin | hin
        · simp -implicitDefEqProofs (maxSteps := 4000000) (disch := omega) only [go_sem, go_sem_proc, dr, Nat.min_def, ↓Nat.reduceBEq, ↓Nat.reduceEqDiff, ↓Nat.reduceLT, ↓Nat.reduceLeDiff, ↓Int.reduceEq, ↓Int.reduceLT, ↓Int.reduceLE, ↓reduceIte, pl_some, pv_eq]
        · have hc0 : 0 ≤ q.col := by omega
          simp -implicitDefEqProofs (maxSteps := 4000000) (disch := omega) only [go_sem, go_sem_proc, dr, Nat.min_def, ↓Nat.reduceBEq, ↓Nat.reduceEqDiff, ↓Nat.reduceLT, ↓Nat.reduceLeDiff, ↓Int.reduceEq, ↓Int.reduceLT, ↓Int.reduceLE, ↓reduceIte, pl_some, pv_eq]
      · obtain ⟨i, hi'⟩ := Int.eq_ofNat_of_zero_le (a := q.col) (by omega)
        obtain ⟨z, hzi, _, _⟩ := take_get (show i < zs.length by omega)
        rw [hi', key2 _ _ _ _ _ _ hzi]
        have hi : i < zs.length := by omega
        clear hin key key2
        refine dw_in (fn := Try.f15) rfl body15 (by simp) ?_
        by_cases h2 : q.kind = 2
        · have h2 := eq_true h2
          have hCC := hC q.kind (i : Int) q.op q.val q.nil q.list z
          simp only [h2, if_true]
          simp -implicitDefEqProofs (maxSteps := 4000000) (disch := omega) only [go_sem, go_sem_proc, dr, Nat.min_def, ↓Nat.reduceBEq, ↓Nat.reduceEqDiff, ↓Nat.reduceLT, ↓Nat.reduceLeDiff, ↓Int.reduceEq, ↓Int.reduceLT, ↓Int.reduceLE, ↓reduceIte, pl_some, pv_eq, hi', hzi, Zn.pv, h2, hCC]
        · have h2 := eq_false h2
          simp -implicitDefEqProofs (maxSteps := 4000000) (disch := omega) only [go_sem, go_sem_proc, dr, Nat.min_def, ↓Nat.reduceBEq, ↓Nat.reduceEqDiff, ↓Nat.reduceLT, ↓Nat.reduceLeDiff, ↓Int.reduceEq, ↓Int.reduceLT, ↓Int.reduceLE, ↓reduceIte, pl_some, pv_eq, hi', hzi, Zn.pv, h2]
  · rw [if_neg h6]
    have h6 := eq_false h6
    by_cases hin : c < 0 ∨ (zs.length : Int) ≤ c
    · rw [key _ _ _ _ n l _ hin]
      refine dw_in (fn := Try.f15) rfl body15 (by simp) ?_
      rcases hin with hin | hin
      · simp -implicitDefEqProofs (maxSteps := 4000000) (disch := omega) only [go_sem, go_sem_proc, dr, Nat.min_def, ↓Nat.reduceBEq, ↓Nat.reduceEqDiff, ↓Nat.reduceLT, ↓Nat.reduceLeDiff, ↓Int.reduceEq, ↓Int.reduceLT, ↓Int.reduceLE, ↓reduceIte, h6]
      · have hc0 : 0 ≤ c := by omega
        simp -implicitDefEqProofs (maxSteps := 4000000) (disch := omega) only [go_sem, go_sem_proc, dr, Nat.min_def, ↓Nat.reduceBEq, ↓Nat.reduceEqDiff, ↓Nat.reduceLT, ↓Nat.reduceLeDiff, ↓Int.reduceEq, ↓Int.reduceLT, ↓Int.reduceLE, ↓reduceIte, h6]
    · obtain ⟨i, rfl⟩ := Int.eq_ofNat_of_zero_le (a := c) (by omega)
      obtain ⟨z, hzi, _, _⟩ := take_get (show i < zs.length by omega)
      rw [key2 _ _ _ _ _ _ hzi]
      have hi : i < zs.length := by omega
      clear hin key key2
      refine dw_in (fn := Try.f15) rfl body15 (by simp) ?_
      by_cases h2 : k = 2
      · have h2 := eq_true h2
        have hCC := hC k (i : Int) o v n l z
        simp only [h2, if_true]
        simp -implicitDefEqProofs (maxSteps := 4000000) (disch := omega) only [go_sem, go_sem_proc, dr, Nat.min_def, ↓Nat.reduceBEq, ↓Nat.reduceEqDiff, ↓Nat.reduceLT, ↓Nat.reduceLeDiff, ↓Int.reduceEq, ↓Int.reduceLT, ↓Int.reduceLE, ↓reduceIte, h6, hzi, Zn.pv, h2, hCC]
      · have h2 := eq_false h2
        simp -implicitDefEqProofs (maxSteps := 4000000) (disch := omega) only [go_sem, go_sem_proc, dr, Nat.min_def, ↓Nat.reduceBEq, ↓Nat.reduceEqDiff, ↓Nat.reduceLT, ↓Nat.reduceLeDiff, ↓Int.reduceEq, ↓Int.reduceLT, ↓Int.reduceLE, ↓reduceIte, h6, hzi, Zn.pv, h2]
/-- the first of a list that is so -/
def idxB (P : Prd → Bool) : List Prd → Nat → Int
  | [], _ => -1
  | q :: r, i => if P q then i else idxB P r (i + 1)
theorem idxB_any (P : Prd → Bool) : ∀ (l : List Prd) (i : Nat), decide (0 ≤ idxB P l i) = l.any P := by
  intro l
  induction l with
  | nil => intro i; rfl
  | cons q r ih =>
    intro i
    rw [idxB, List.any_cons]
    cases h : P q with
    | true => simp
    | false => simp only [Bool.false_eq_true, if_false, Bool.false_or]; exact ih _
theorem Index_n11 {zs : List Zn} {count : Int} {P : Prd → Bool} {l : List Prd} (hl : l.length ≤ 1000000)
    (h : ∀ q ∈ l, dw E 14 [.agg [.int .i64 q.kind, .int .i64 q.col, .int .i64 q.op, .bool q.val.null, .int .i64 q.val.kind, .int .i64 q.val.int, bl q.val.bytes, pl q.nil q.list], .pc [.sl 9 (zs.map Zn.pv)], .pc [.int .i64 count]] [] = some (.bool (P q), [])) :
    dw E 21 [.sl 8 (l.map Prd.pv), .fn 14 [.pc [.sl 9 (zs.map Zn.pv)], .pc [.int .i64 count]]] [] = some (.int .i64 (idxB P l 0), []) := by
  refine dw_in (fn := Try.f21) rfl body21 (by simp) ?_
  simp -implicitDefEqProofs (maxSteps := 4000000) (disch := omega) only [go_sem, go_sem_proc, dr, Nat.min_def, ↓Nat.reduceBEq, ↓Nat.reduceEqDiff, ↓Nat.reduceLT, ↓Nat.reduceLeDiff, ↓Int.reduceEq, ↓Int.reduceLT, ↓Int.reduceLE, ↓reduceIte]
  refine runs_any (fun i : Nat => (⟨[(0, .sl 8 (l.map Prd.pv)), (1, .fn 14 [.pc [.sl 9 (zs.map Zn.pv)], .pc [.int .i64 count]]), (7, .int .i64 l.length), (8, .int .i64 i)], [], 1⟩ : St)) (fun i => l.length - i) 0 (fun i => i ≤ l.length ∧ idxB P l 0 = idxB P (l.drop i) i) ⟨Nat.zero_le _, rfl⟩ ?_ ?_
  · simp -implicitDefEqProofs (maxSteps := 4000000) (disch := omega) only [go_sem, go_sem_proc, dr, Nat.min_def, ↓Nat.reduceBEq, ↓Nat.reduceEqDiff, ↓Nat.reduceLT, ↓Nat.reduceLeDiff, ↓Int.reduceEq, ↓Int.reduceLT, ↓Int.reduceLE, ↓reduceIte]
  · rintro i ⟨hi, he⟩
    by_cases hlt : i < l.length
    · obtain ⟨q, hq, hqm, _⟩ := take_get hlt
      have hd : l.drop i = q :: l.drop (i + 1) := by rw [List.drop_eq_getElem_cons hlt, (List.getElem?_eq_some_iff.1 hq).2]
      rw [hd, idxB] at he
      have hP := h q hqm
      clear h
      cases hPq : P q with
      | true =>
        rw [hPq] at he hP
        simp only [if_true] at he
        simp -implicitDefEqProofs (maxSteps := 4000000) (disch := omega) only [go_sem, go_sem_proc, dr, Nat.min_def, ↓Nat.reduceBEq, ↓Nat.reduceEqDiff, ↓Nat.reduceLT, ↓Nat.reduceLeDiff, ↓Int.reduceEq, ↓Int.reduceLT, ↓Int.reduceLE, ↓reduceIte, hq, pv_eq, hP, he]
      | false =>
        rw [hPq] at he hP
        simp only [Bool.false_eq_true, if_false] at he
        simp -implicitDefEqProofs (maxSteps := 4000000) (disch := omega) only [go_sem, go_sem_proc, dr, Nat.min_def, ↓Nat.reduceBEq, ↓Nat.reduceEqDiff, ↓Nat.reduceLT, ↓Nat.reduceLeDiff, ↓Int.reduceEq, ↓Int.reduceLT, ↓Int.reduceLE, ↓reduceIte, hq, pv_eq, hP]
        exact ⟨i + 1, rfl, ⟨hlt, he⟩, by omega⟩
    · have hd : l.drop i = [] := List.drop_eq_nil_of_le (by omega)
      rw [hd, idxB] at he
      simp -implicitDefEqProofs (maxSteps := 4000000) (disch := omega) only [go_sem, go_sem_proc, dr, Nat.min_def, ↓Nat.reduceBEq, ↓Nat.reduceEqDiff, ↓Nat.reduceLT, ↓Nat.reduceLeDiff, ↓Int.reduceEq, ↓Int.reduceLT, ↓Int.reduceLE, ↓reduceIte, he]
theorem Contains_n11 {zs : List Zn} {count : Int} {P : Prd → Bool} {l : List Prd} (hl : l.length ≤ 1000000)
    (h : ∀ q ∈ l, dw E 14 [.agg [.int .i64 q.kind, .int .i64 q.col, .int .i64 q.op, .bool q.val.null, .int .i64 q.val.kind, .int .i64 q.val.int, bl q.val.bytes, pl q.nil q.list], .pc [.sl 9 (zs.map Zn.pv)], .pc [.int .i64 count]] [] = some (.bool (P q), [])) :
    dw E 13 [.sl 8 (l.map Prd.pv), .fn 14 [.pc [.sl 9 (zs.map Zn.pv)], .pc [.int .i64 count]]] [] = some (.bool (l.any P), []) := by
  refine dw_in (fn := Try.f13) rfl body13 (by simp) ?_
  rw [← idxB_any P l 0]
  simp -implicitDefEqProofs (maxSteps := 4000000) only [go_sem, go_sem_proc, ↓reduceIte, Nat.min_def, Index_n11 hl h]
theorem Index_n1 {zs : List Zn} {count : Int} {P : Prd → Bool} {l : List Prd} (hl : l.length ≤ 1000000)
    (h : ∀ q ∈ l, dw E 12 [.agg [.int .i64 q.kind, .int .i64 q.col, .int .i64 q.op, .bool q.val.null, .int .i64 q.val.kind, .int .i64 q.val.int, bl q.val.bytes, pl q.nil q.list], .pc [.sl 9 (zs.map Zn.pv)], .pc [.int .i64 count]] [] = some (.bool (P q), [])) :
    dw E 21 [.sl 8 (l.map Prd.pv), .fn 12 [.pc [.sl 9 (zs.map Zn.pv)], .pc [.int .i64 count]]] [] = some (.int .i64 (idxB P l 0), []) := by
  refine dw_in (fn := Try.f21) rfl body21 (by simp) ?_
  simp -implicitDefEqProofs (maxSteps := 4000000) (disch := omega) only [go_sem, go_sem_proc, dr, Nat.min_def, ↓Nat.reduceBEq, ↓Nat.reduceEqDiff, ↓Nat.reduceLT, ↓Nat.reduceLeDiff, ↓Int.reduceEq, ↓Int.reduceLT, ↓Int.reduceLE, ↓reduceIte]
  refine runs_any (fun i : Nat => (⟨[(0, .sl 8 (l.map Prd.pv)), (1, .fn 12 [.pc [.sl 9 (zs.map Zn.pv)], .pc [.int .i64 count]]), (7, .int .i64 l.length), (8, .int .i64 i)], [], 1⟩ : St)) (fun i => l.length - i) 0 (fun i => i ≤ l.length ∧ idxB P l 0 = idxB P (l.drop i) i) ⟨Nat.zero_le _, rfl⟩ ?_ ?_
  · simp -implicitDefEqProofs (maxSteps := 4000000) (disch := omega) only [go_sem, go_sem_proc, dr, Nat.min_def, ↓Nat.reduceBEq, ↓Nat.reduceEqDiff, ↓Nat.reduceLT, ↓Nat.reduceLeDiff, ↓Int.reduceEq, ↓Int.reduceLT, ↓Int.reduceLE, ↓reduceIte]
  · rintro i ⟨hi, he⟩
    by_cases hlt : i < l.length
    · obtain ⟨q, hq, hqm, _⟩ := take_get hlt
      have hd : l.drop i = q :: l.drop (i + 1) := by rw [List.drop_eq_getElem_cons hlt, (List.getElem?_eq_some_iff.1 hq).2]
      rw [hd, idxB] at he
      have hP := h q hqm
      clear h
      cases hPq : P q with
      | true =>
        rw [hPq] at he hP
        simp only [if_true] at he
        simp -implicitDefEqProofs (maxSteps := 4000000) (disch := omega) only [go_sem, go_sem_proc, dr, Nat.min_def, ↓Nat.reduceBEq, ↓Nat.reduceEqDiff, ↓Nat.reduceLT, ↓Nat.reduceLeDiff, ↓Int.reduceEq, ↓Int.reduceLT, ↓Int.reduceLE, ↓reduceIte, hq, pv_eq, hP, he]
      | false =>
        rw [hPq] at he hP
        simp only [Bool.false_eq_true, if_false] at he
        simp -implicitDefEqProofs (maxSteps := 4000000) (disch := omega) only [go_sem, go_sem_proc, dr, Nat.min_def, ↓Nat.reduceBEq, ↓Nat.reduceEqDiff, ↓Nat.reduceLT, ↓Nat.reduceLeDiff, ↓Int.reduceEq, ↓Int.reduceLT, ↓Int.reduceLE, ↓reduceIte, hq, pv_eq, hP]
        exact ⟨i + 1, rfl, ⟨hlt, he⟩, by omega⟩
    · have hd : l.drop i = [] := List.drop_eq_nil_of_le (by omega)
      rw [hd, idxB] at he
      simp -implicitDefEqProofs (maxSteps := 4000000) (disch := omega) only [go_sem, go_sem_proc, dr, Nat.min_def, ↓Nat.reduceBEq, ↓Nat.reduceEqDiff, ↓Nat.reduceLT, ↓Nat.reduceLeDiff, ↓Int.reduceEq, ↓Int.reduceLT, ↓Int.reduceLE, ↓reduceIte, he]
theorem Contains_n1 {zs : List Zn} {count : Int} {P : Prd → Bool} {l : List Prd} (hl : l.length ≤ 1000000)
    (h : ∀ q ∈ l, dw E 12 [.agg [.int .i64 q.kind, .int .i64 q.col, .int .i64 q.op, .bool q.val.null, .int .i64 q.val.kind, .int .i64 q.val.int, bl q.val.bytes, pl q.nil q.list], .pc [.sl 9 (zs.map Zn.pv)], .pc [.int .i64 count]] [] = some (.bool (P q), [])) :
    dw E 13 [.sl 8 (l.map Prd.pv), .fn 12 [.pc [.sl 9 (zs.map Zn.pv)], .pc [.int .i64 count]]] [] = some (.bool (l.any P), []) := by
  refine dw_in (fn := Try.f13) rfl body13 (by simp) ?_
  rw [← idxB_any P l 0]
  simp -implicitDefEqProofs (maxSteps := 4000000) only [go_sem, go_sem_proc, ↓reduceIte, Nat.min_def, Index_n1 hl h]

theorem May11_spec {zs : List Zn} {count : Int} {p : Prd} (hz : zs.length ≤ 1000) : dw E 14 [.agg [.int .i64 p.kind, .int .i64 p.col, .int .i64 p.op, .bool p.val.null, .int .i64 p.val.kind, .int .i64 p.val.int, bl p.val.bytes, pl p.nil p.list], .pc [.sl 9 (zs.map Zn.pv)], .pc [.int .i64 count]] [] = some (.bool (!possN zs count p), []) := by
  refine dw_in (fn := Try.f14) rfl body14 (by simp) ?_
  simp -implicitDefEqProofs (maxSteps := 4000000) (disch := omega) only [go_sem, go_sem_proc, dr, Nat.min_def, ↓Nat.reduceBEq, ↓Nat.reduceEqDiff, ↓Nat.reduceLT, ↓Nat.reduceLeDiff, ↓Int.reduceEq, ↓Int.reduceLT, ↓Int.reduceLE, ↓reduceIte, possible_spec hz]
theorem May1_spec {zs : List Zn} {count : Int} {L : List Prd} (hz : zs.length ≤ 1000) (hl : L.length ≤ 1000000) : dw E 12 [.agg [.int .i64 4, .int .i64 0, .int .i64 0, .bool false, .int .i64 0, .int .i64 0, .sl 1 [], .sl 8 (L.map Prd.pv)], .pc [.sl 9 (zs.map Zn.pv)], .pc [.int .i64 count]] [] =
    some (.bool (!(L.any fun q => !possN zs count q)), []) := by
  refine dw_in (fn := Try.f12) rfl body12 (by simp) ?_
  have h := Contains_n11 (zs := zs) (count := count) (P := fun q => !possN zs count q) hl (fun q _ => May11_spec hz)
  simp -implicitDefEqProofs (maxSteps := 4000000) (disch := omega) only [go_sem, go_sem_proc, dr, Nat.min_def, ↓Nat.reduceBEq, ↓Nat.reduceEqDiff, ↓Nat.reduceLT, ↓Nat.reduceLeDiff, ↓Int.reduceEq, ↓Int.reduceLT, ↓Int.reduceLE, ↓reduceIte, h]
end Go.Proofs.Ytjhdickfkpcccaa.D
