/- What the document says a predicate is of a row. -/
import Derived.Test.YtgocfiehbgoacaaPred2
import Derived.Test.YtgocfiehbgoacaaDenL2
namespace Go.Proofs.Ytgocfiehbgoacaa.D
open Go Go.Den
set_option linter.unusedSimpArgs false
set_option linter.unusedVariables false
set_option maxRecDepth 20000
set_option maxHeartbeats 8000000
theorem less_iff : ∀ (a b : List UInt8), Op.bytesLess a b = decide (Lib.compareBytes a b = -1)
  | [], [] => by simp [Op.bytesLess, Lib.compareBytes]
  | [], _ :: _ => by simp [Op.bytesLess, Lib.compareBytes]
  | _ :: _, [] => by simp [Op.bytesLess, Lib.compareBytes]
  | a :: x, b :: y => by
    rw [Op.bytesLess, Lib.compareBytes, less_iff x y]
    by_cases h1 : a < b
    · simp [h1]
    · by_cases h2 : b < a
      · have h3 : ¬ a = b := fun e => by subst e; exact h1 h2
        simp [h1, h2, h3]
      · have h3 : a = b := by
          simp only [UInt8.lt_iff_toNat_lt] at h1 h2
          exact UInt8.toNat_inj.1 (by omega)
        simp [h2, h3]
theorem cb_cases (a b : List UInt8) : Lib.compareBytes a b = -1 ∨ Lib.compareBytes a b = 0 ∨ Lib.compareBytes a b = 1 := by
  induction a generalizing b with
  | nil => cases b <;> simp [Lib.compareBytes]
  | cons x r ih =>
    cases b with
    | nil => simp [Lib.compareBytes]
    | cons y s =>
      rw [Lib.compareBytes]
      split
      · exact .inl rfl
      · split
        · exact .inr (.inr rfl)
        · exact ih s
theorem Compare_ref {nl ml : Bool} {k i l j : Int} {o q : Option (List Int)} : dw E 17 [.agg [.bool nl, .int .i64 k, .int .i64 i, bl o], .agg [.bool ml, .int .i64 l, .int .i64 j, bl q]] [] =
    some (.int .i64 (cmpV ⟨nl, k, i, o⟩ ⟨ml, l, j, q⟩), []) := by
  have c00 : cmpI 0 0 = 0 := rfl
  have c01 : cmpI 0 1 = -1 := rfl
  have c10 : cmpI 1 0 = 1 := rfl
  have c11 : cmpI 1 1 = 0 := rfl
  refine dw_in (fn := Try.f17) rfl body17 (by simp) ?_
  cases nl
  · cases ml
    · by_cases h1 : k = 1
      · have e1 := eq_true h1
        by_cases h2 : i = j
        · subst h2
          have ec : cmpI i i = 0 := by simp [cmpI]
          simp -implicitDefEqProofs (maxSteps := 4000000) only [go_sem, go_sem_proc, ↓reduceIte, Nat.min_def, rankV, c11, cmpV, e1, ec, h1]
        · have h2' := eq_false h2
          by_cases h3 : i < j
          · have ec : cmpI i j = -1 := by simp [cmpI, h3]
            have h3 := eq_true h3
            simp -implicitDefEqProofs (maxSteps := 4000000) only [go_sem, go_sem_proc, ↓reduceIte, Nat.min_def, rankV, c11, cmpV, e1, ec, h2', h3]
          · have ec : cmpI i j = 1 := by have : j < i := by omega
                                         simp [cmpI, h3, this]
            have h3 := eq_false h3
            simp -implicitDefEqProofs (maxSteps := 4000000) only [go_sem, go_sem_proc, ↓reduceIte, Nat.min_def, rankV, c11, cmpV, e1, ec, h2', h3]
      · have e1 := eq_false h1
        by_cases h2 : k = 2
        · have e2 := eq_true h2
          have hz := less_iff ((bz o).map toU8) ((bz q).map toU8)
          rcases cb_cases ((bz o).map toU8) ((bz q).map toU8) with hc | hc | hc
          · have hn : ((bz o).map toU8 == (bz q).map toU8) = false := by
              rw [beq_eq_false_iff_ne]; intro e; rw [e, cb_zero.2 rfl] at hc; cases hc
            rw [hc] at hz
            simp -implicitDefEqProofs (maxSteps := 4000000) only [go_sem, go_sem_proc, ↓reduceIte, Nat.min_def, rankV, c11, cmpV, e1, e2, Val.b, hc, hz, hn]
          · have hn : ((bz o).map toU8 == (bz q).map toU8) = true := by rw [beq_iff_eq]; exact cb_zero.1 hc
            rw [hc] at hz
            simp -implicitDefEqProofs (maxSteps := 4000000) only [go_sem, go_sem_proc, ↓reduceIte, Nat.min_def, rankV, c11, cmpV, e1, e2, Val.b, hc, hz, hn]
          · have hn : ((bz o).map toU8 == (bz q).map toU8) = false := by
              rw [beq_eq_false_iff_ne]; intro e; rw [e, cb_zero.2 rfl] at hc; cases hc
            rw [hc] at hz
            simp -implicitDefEqProofs (maxSteps := 4000000) only [go_sem, go_sem_proc, ↓reduceIte, Nat.min_def, rankV, c11, cmpV, e1, e2, Val.b, hc, hz, hn]
        · have e2 := eq_false h2
          simp -implicitDefEqProofs (maxSteps := 4000000) only [go_sem, go_sem_proc, ↓reduceIte, Nat.min_def, rankV, c11, cmpV, e1, e2]
    · simp -implicitDefEqProofs (maxSteps := 4000000) only [go_sem, go_sem_proc, ↓reduceIte, Nat.min_def, rankV, c10, cmpV]
  · cases ml
    · simp -implicitDefEqProofs (maxSteps := 4000000) only [go_sem, go_sem_proc, ↓reduceIte, Nat.min_def, rankV, c01, cmpV]
    · simp -implicitDefEqProofs (maxSteps := 4000000) only [go_sem, go_sem_proc, ↓reduceIte, Nat.min_def, rankV, c00, cmpV]
theorem holds_ref {o c : Int} (ho : 1 ≤ o ∧ o ≤ 6) : dw E 43 [.int .i64 o, .int .i64 c] [] = some (.bool (holdsOp o c), []) := by
  refine dw_in (fn := Try.f43) rfl body43 (by simp) ?_
  unfold holdsOp
  rcases (show o = 1 ∨ o = 2 ∨ o = 3 ∨ o = 4 ∨ o = 5 ∨ o = 6 by omega) with rfl | rfl | rfl | rfl | rfl | rfl <;> clear ho <;> simp -implicitDefEqProofs (maxSteps := 4000000) only [go_sem, go_sem_proc, ↓reduceIte, Nat.min_def]
theorem truth_ref {b : Bool} : dw E 42 [.bool b] [] = some (.int .i64 (truthI b), []) := by
  refine dw_in (fn := Try.f42) rfl body42 (by simp) ?_
  cases b <;> simp -implicitDefEqProofs (maxSteps := 4000000) (disch := omega) only [go_sem, go_sem_proc, dr, Nat.min_def, ↓Nat.reduceBEq, ↓Nat.reduceEqDiff, ↓Nat.reduceLT, ↓Nat.reduceLeDiff, ↓Int.reduceEq, ↓Int.reduceLT, ↓Int.reduceLE, ↓reduceIte, truthI]
/-- a predicate that may be asked of rows of so many -/
inductive RW (m : Nat) : Prd → Prop where
  | mk {k c o : Int} {v : Val} {n : Bool} {l : List Prd} : 1 ≤ k ∧ k ≤ 6 → (k = 2 → (0 ≤ c ∧ c < m) ∧ 1 ≤ o ∧ o ≤ 6) → (k = 3 → 0 ≤ c ∧ c < m) → (k = 6 → l ≠ []) → (∀ q ∈ l, RW m q) → RW m (.mk k c o v n l)
theorem Eval_ref {row : List Val} (hr : R1 row) {p : Prd} (hp : Sm p) (hw : RW row.length p) : dw E 20 [.agg [.int .i64 p.kind, .int .i64 p.col, .int .i64 p.op, .bool p.val.null, .int .i64 p.val.kind, .int .i64 p.val.int, bl p.val.bytes, pl p.nil p.list], .sl 4 (row.map Val.pv)] [] = some (.int .i64 (p.eval row), []) := by
  induction p using Prd.ind with
  | h k c o v n l ih =>
    obtain ⟨hb, hl, hq⟩ := hp
    obtain ⟨hk, w2, w3, w6, hw⟩ := hw
    have ih := fun q hm => ih q hm (hq q hm) (hw q hm)
    rw [eval_mk]
    simp only [Prd.kind, Prd.col, Prd.op, Prd.val, Prd.nil, Prd.list]
    by_cases h1 : k = 1
    · subst h1; refine dw_in (fn := Try.f20) rfl body20 (by simp) ?_; simp -implicitDefEqProofs (maxSteps := 4000000) (disch := omega) only [go_sem, go_sem_proc, dr, Nat.min_def, ↓Nat.reduceBEq, ↓Nat.reduceEqDiff, ↓Nat.reduceLT, ↓Nat.reduceLeDiff, ↓Int.reduceEq, ↓Int.reduceLT, ↓Int.reduceLE, ↓reduceIte]
    by_cases h2 : k = 2
    · subst h2
      obtain ⟨hc, ho⟩ := w2 rfl
      clear w2 w3 w6
      obtain ⟨i, rfl⟩ := Int.eq_ofNat_of_zero_le (a := c) hc.1
      obtain ⟨w, hw', _, _⟩ := take_get (show i < row.length by omega)
      rw [atV_in rfl hw']
      refine dw_in (fn := Try.f20) rfl body20 (by simp) ?_
      cases hn : w.null with
      | true => simp -implicitDefEqProofs (maxSteps := 4000000) (disch := omega) only [go_sem, go_sem_proc, dr, Nat.min_def, ↓Nat.reduceBEq, ↓Nat.reduceEqDiff, ↓Nat.reduceLT, ↓Nat.reduceLeDiff, ↓Int.reduceEq, ↓Int.reduceLT, ↓Int.reduceLE, ↓reduceIte, hw', hn]
      | false =>
        have hcm := Compare_ref (nl := w.null) (ml := v.null) (k := w.kind) (i := w.int) (l := v.kind) (j := v.int) (o := w.bytes) (q := v.bytes)
        rw [show cmpV ⟨w.null, w.kind, w.int, w.bytes⟩ ⟨v.null, v.kind, v.int, v.bytes⟩ = cmpV w v from rfl, hn] at hcm
        simp -implicitDefEqProofs (maxSteps := 4000000) (disch := omega) only [go_sem, go_sem_proc, dr, Nat.min_def, ↓Nat.reduceBEq, ↓Nat.reduceEqDiff, ↓Nat.reduceLT, ↓Nat.reduceLeDiff, ↓Int.reduceEq, ↓Int.reduceLT, ↓Int.reduceLE, ↓reduceIte, hw', hn, hcm, holds_ref ho, truth_ref]
        first | done | ((repeat' split) <;> (change _ = true; kernel_rfl))
    by_cases h3 : k = 3
    · subst h3
      have hc := w3 rfl
      clear w2 w3 w6
      obtain ⟨i, rfl⟩ := Int.eq_ofNat_of_zero_le (a := c) hc.1
      obtain ⟨w, hw', _, _⟩ := take_get (show i < row.length by omega)
      rw [atV_in rfl hw']
      refine dw_in (fn := Try.f20) rfl body20 (by simp) ?_
      simp -implicitDefEqProofs (maxSteps := 4000000) (disch := omega) only [go_sem, go_sem_proc, dr, Nat.min_def, ↓Nat.reduceBEq, ↓Nat.reduceEqDiff, ↓Nat.reduceLT, ↓Nat.reduceLeDiff, ↓Int.reduceEq, ↓Int.reduceLT, ↓Int.reduceLE, ↓reduceIte, hw', truth_ref]
    by_cases h6 : k = 6
    · subst h6
      cases l with
      | nil => exact absurd rfl (w6 rfl)
      | cons q r =>
        have hev := ih q List.mem_cons_self
        have hrg := eval_range row q
        refine dw_in (fn := Try.f20) rfl body20 (by simp) ?_
        clear w2 w3 w6
        obtain ⟨x, hx⟩ : ∃ x, q.eval row = x := ⟨_, rfl⟩
        rw [hx] at hev hrg
        rcases (show x = 1 ∨ x = 2 ∨ x = 3 by omega) with rfl | rfl | rfl <;> simp -implicitDefEqProofs (maxSteps := 4000000) (disch := omega) only [go_sem, go_sem_proc, dr, Nat.min_def, ↓Nat.reduceBEq, ↓Nat.reduceEqDiff, ↓Nat.reduceLT, ↓Nat.reduceLeDiff, ↓Int.reduceEq, ↓Int.reduceLT, ↓Int.reduceLE, ↓reduceIte, pl_some, pv_eq, hev, notI, hx]
    have h45 : k = 4 ∨ k = 5 := by omega
    clear w2 w3 w6 h1 h2 h3 h6 hk
    rcases h45 with rfl | rfl
    · refine dw_in (fn := Try.f20) rfl body20 (by simp) ?_
      simp -implicitDefEqProofs (maxSteps := 4000000) (disch := omega) only [go_sem, go_sem_proc, dr, Nat.min_def, ↓Nat.reduceBEq, ↓Nat.reduceEqDiff, ↓Nat.reduceLT, ↓Nat.reduceLeDiff, ↓Int.reduceEq, ↓Int.reduceLT, ↓Int.reduceLE, ↓reduceIte]
      refine runs_any (fun s : Nat × Int => (⟨[(1, .sl 4 (row.map Val.pv)), (2, .pb 1048578 0), (5, .int .i64 2), (6, .int .i64 s.2), (7, .int .i64 s.1)], [(1048578, some ⟨true, .box [.int .i64 4, .int .i64 c, .int .i64 o, .bool v.null, .int .i64 v.kind, .int .i64 v.int, bl v.bytes, pl n l]⟩)], 1⟩ : St)) (fun s => l.length - s.1) (0, 1)
        (fun s => s.1 ≤ l.length ∧ listI 2 1 (l.map (Prd.eval row)) = listI 2 s.2 ((l.drop s.1).map (Prd.eval row))) ⟨Nat.zero_le _, by simp⟩ ?_ ?_
      · simp -implicitDefEqProofs (maxSteps := 4000000) (disch := omega) only [go_sem, go_sem_proc, dr, Nat.min_def, ↓Nat.reduceBEq, ↓Nat.reduceEqDiff, ↓Nat.reduceLT, ↓Nat.reduceLeDiff, ↓Int.reduceEq, ↓Int.reduceLT, ↓Int.reduceLE, ↓reduceIte]
      · rintro ⟨i, out⟩ ⟨hi, he⟩
        dsimp only at hi he
        by_cases hlt : i < l.length
        · obtain ⟨q, hq, hqm, _⟩ := take_get hlt
          have hd : l.drop i = q :: l.drop (i + 1) := by rw [List.drop_eq_getElem_cons hlt, (List.getElem?_eq_some_iff.1 hq).2]
          rw [hd, List.map_cons, listI] at he
          have hev := ih q hqm
          have hrg := eval_range row q
          by_cases hd' : q.eval row = 2
          · rw [if_pos hd'] at he
            rw [hd'] at hev
            simp -implicitDefEqProofs (maxSteps := 4000000) (disch := omega) only [go_sem, go_sem_proc, dr, Nat.min_def, ↓Nat.reduceBEq, ↓Nat.reduceEqDiff, ↓Nat.reduceLT, ↓Nat.reduceLeDiff, ↓Int.reduceEq, ↓Int.reduceLT, ↓Int.reduceLE, ↓reduceIte, hq, pl_get hlt, pv_eq, hev, he]
          · rw [if_neg hd'] at he
            by_cases h3 : q.eval row = 3
            · rw [if_pos h3] at he
              rw [h3] at hev
              clear hrg hd' h3
              simp -implicitDefEqProofs (maxSteps := 4000000) (disch := omega) only [go_sem, go_sem_proc, dr, Nat.min_def, ↓Nat.reduceBEq, ↓Nat.reduceEqDiff, ↓Nat.reduceLT, ↓Nat.reduceLeDiff, ↓Int.reduceEq, ↓Int.reduceLT, ↓Int.reduceLE, ↓reduceIte, hq, pl_get hlt, pv_eq, hev]
              exact ⟨(i + 1, 3), rfl, ⟨by omega, he⟩, by show l.length - (i + 1) < l.length - i; omega⟩
            · rw [if_neg h3] at he
              have h4 : q.eval row = 1 := by omega
              rw [h4] at hev
              clear hrg hd' h3 h4
              simp -implicitDefEqProofs (maxSteps := 4000000) (disch := omega) only [go_sem, go_sem_proc, dr, Nat.min_def, ↓Nat.reduceBEq, ↓Nat.reduceEqDiff, ↓Nat.reduceLT, ↓Nat.reduceLeDiff, ↓Int.reduceEq, ↓Int.reduceLT, ↓Int.reduceLE, ↓reduceIte, hq, pl_get hlt, pv_eq, hev]
              exact ⟨(i + 1, out), rfl, ⟨by omega, he⟩, by show l.length - (i + 1) < l.length - i; omega⟩
        · have hd : l.drop i = [] := List.drop_eq_nil_of_le (by omega)
          rw [hd, List.map_nil, listI] at he
          simp -implicitDefEqProofs (maxSteps := 4000000) (disch := omega) only [go_sem, go_sem_proc, dr, Nat.min_def, ↓Nat.reduceBEq, ↓Nat.reduceEqDiff, ↓Nat.reduceLT, ↓Nat.reduceLeDiff, ↓Int.reduceEq, ↓Int.reduceLT, ↓Int.reduceLE, ↓reduceIte, he]
    · refine dw_in (fn := Try.f20) rfl body20 (by simp) ?_
      simp -implicitDefEqProofs (maxSteps := 4000000) (disch := omega) only [go_sem, go_sem_proc, dr, Nat.min_def, ↓Nat.reduceBEq, ↓Nat.reduceEqDiff, ↓Nat.reduceLT, ↓Nat.reduceLeDiff, ↓Int.reduceEq, ↓Int.reduceLT, ↓Int.reduceLE, ↓reduceIte]
      refine runs_any (fun s : Nat × Int => (⟨[(1, .sl 4 (row.map Val.pv)), (2, .pb 1048578 0), (5, .int .i64 1), (6, .int .i64 s.2), (7, .int .i64 s.1)], [(1048578, some ⟨true, .box [.int .i64 5, .int .i64 c, .int .i64 o, .bool v.null, .int .i64 v.kind, .int .i64 v.int, bl v.bytes, pl n l]⟩)], 1⟩ : St)) (fun s => l.length - s.1) (0, 2)
        (fun s => s.1 ≤ l.length ∧ listI 1 2 (l.map (Prd.eval row)) = listI 1 s.2 ((l.drop s.1).map (Prd.eval row))) ⟨Nat.zero_le _, by simp⟩ ?_ ?_
      · simp -implicitDefEqProofs (maxSteps := 4000000) (disch := omega) only [go_sem, go_sem_proc, dr, Nat.min_def, ↓Nat.reduceBEq, ↓Nat.reduceEqDiff, ↓Nat.reduceLT, ↓Nat.reduceLeDiff, ↓Int.reduceEq, ↓Int.reduceLT, ↓Int.reduceLE, ↓reduceIte]
      · rintro ⟨i, out⟩ ⟨hi, he⟩
        dsimp only at hi he
        by_cases hlt : i < l.length
        · obtain ⟨q, hq, hqm, _⟩ := take_get hlt
          have hd : l.drop i = q :: l.drop (i + 1) := by rw [List.drop_eq_getElem_cons hlt, (List.getElem?_eq_some_iff.1 hq).2]
          rw [hd, List.map_cons, listI] at he
          have hev := ih q hqm
          have hrg := eval_range row q
          by_cases hd' : q.eval row = 1
          · rw [if_pos hd'] at he
            rw [hd'] at hev
            simp -implicitDefEqProofs (maxSteps := 4000000) (disch := omega) only [go_sem, go_sem_proc, dr, Nat.min_def, ↓Nat.reduceBEq, ↓Nat.reduceEqDiff, ↓Nat.reduceLT, ↓Nat.reduceLeDiff, ↓Int.reduceEq, ↓Int.reduceLT, ↓Int.reduceLE, ↓reduceIte, hq, pl_get hlt, pv_eq, hev, he]
          · rw [if_neg hd'] at he
            by_cases h3 : q.eval row = 3
            · rw [if_pos h3] at he
              rw [h3] at hev
              clear hrg hd' h3
              simp -implicitDefEqProofs (maxSteps := 4000000) (disch := omega) only [go_sem, go_sem_proc, dr, Nat.min_def, ↓Nat.reduceBEq, ↓Nat.reduceEqDiff, ↓Nat.reduceLT, ↓Nat.reduceLeDiff, ↓Int.reduceEq, ↓Int.reduceLT, ↓Int.reduceLE, ↓reduceIte, hq, pl_get hlt, pv_eq, hev]
              exact ⟨(i + 1, 3), rfl, ⟨by omega, he⟩, by show l.length - (i + 1) < l.length - i; omega⟩
            · rw [if_neg h3] at he
              have h4 : q.eval row = 2 := by omega
              rw [h4] at hev
              clear hrg hd' h3 h4
              simp -implicitDefEqProofs (maxSteps := 4000000) (disch := omega) only [go_sem, go_sem_proc, dr, Nat.min_def, ↓Nat.reduceBEq, ↓Nat.reduceEqDiff, ↓Nat.reduceLT, ↓Nat.reduceLeDiff, ↓Int.reduceEq, ↓Int.reduceLT, ↓Int.reduceLE, ↓reduceIte, hq, pl_get hlt, pv_eq, hev]
              exact ⟨(i + 1, out), rfl, ⟨by omega, he⟩, by show l.length - (i + 1) < l.length - i; omega⟩
        · have hd : l.drop i = [] := List.drop_eq_nil_of_le (by omega)
          rw [hd, List.map_nil, listI] at he
          simp -implicitDefEqProofs (maxSteps := 4000000) (disch := omega) only [go_sem, go_sem_proc, dr, Nat.min_def, ↓Nat.reduceBEq, ↓Nat.reduceEqDiff, ↓Nat.reduceLT, ↓Nat.reduceLeDiff, ↓Int.reduceEq, ↓Int.reduceLT, ↓Int.reduceLE, ↓reduceIte, he]
end Go.Proofs.Ytgocfiehbgoacaa.D
