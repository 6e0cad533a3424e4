/- What the document says of sets, ops, programs. -/
import Derived.Test.YtgbeijemcojnpaaExpr6
namespace Go.Proofs.Ytgbeijemcojnpaa.D
open Go Go.Den
set_option linter.unusedSimpArgs false
set_option linter.unusedVariables false
set_option maxRecDepth 20000
set_option maxHeartbeats 8000000
theorem setB_out (s : List Col) (x : SetN) (h : inB s x.col = false ∨ x.col = 0) : setB s x = false := by
  unfold setB
  rcases h with h | h
  · rw [h]; rfl
  · rw [if_pos (by rw [decide_eq_true h]; simp)]
theorem setB_in (s : List Col) (x : SetN) (q : Col) (i : Nat) (hi : x.col = i) (h0 : ¬ x.col = 0) (hil : i < s.length) (hq : s[i]? = some q) : setB s x = (valueB q.kind x.val && (!(x.val.null && (!q.null || x.add)) && !(x.add && !decide (q.kind = 1)))) := by
  have hin : inB s x.col = true := by unfold inB; simp; omega
  obtain ⟨j, q', hj, hjl, hq', hka⟩ := col_at hin
  have : j = i := by omega
  subst this
  rw [hq] at hq'
  cases hq'
  unfold setB
  have hg : s.getD x.col.toNat keyCol = q := by rw [hj, Int.toNat_natCast, List.getD_eq_getElem?_getD, hq]; rfl
  rw [hin, decide_eq_false h0, hg, hka, holds_ref]
  cases valueB q.kind x.val <;> cases x.val.null <;> cases q.null <;> cases x.add <;> cases decide (q.kind = 1) <;> rfl
theorem refsets_spec {s : List Col} {n : Bool} {l : List SetN} (hs : s.length ≤ 20) (hl : l.length ≤ 9223372036854775807) (hb : ∀ x ∈ l, (bz x.val.bytes).length ≤ 9223372036854775807) : dw E 30 [.agg [.sl 3 (s.map Col.pv)], sf n 6 (l.map SetN.pv)] [] = some (.bool (setsB s l), []) := by
  unfold setsB
  refine dw_in (fn := Try.f30) rfl body30 (by simp) ?_
  simp -implicitDefEqProofs (maxSteps := 4000000) (disch := omega) only [go_sem, go_sem_proc, dr, Nat.min_def, ↓Nat.reduceBEq, ↓Nat.reduceEqDiff, ↓Nat.reduceLT, ↓Nat.reduceLeDiff, ↓Int.reduceEq, ↓Int.reduceLT, ↓Int.reduceLE, ↓reduceIte]
  refine runs_any (fun i : Nat => (⟨[(1, sf n 6 (l.map SetN.pv)), (2, .pb 1048578 0), (5, .int .i64 i)], [(1048578, some ⟨true, .box [.sl 3 (s.map Col.pv)]⟩)], 1⟩ : St)) (fun i => l.length - i) 0 (fun i => i ≤ l.length ∧ setsR s [] l = setsR s (l.take i) (l.drop i)) ⟨Nat.zero_le _, rfl⟩ ?_ ?_
  · simp -implicitDefEqProofs (maxSteps := 4000000) (disch := omega) only [go_sem, go_sem_proc, dr, Nat.min_def, ↓Nat.reduceBEq, ↓Nat.reduceEqDiff, ↓Nat.reduceLT, ↓Nat.reduceLeDiff, ↓Int.reduceEq, ↓Int.reduceLT, ↓Int.reduceLE, ↓reduceIte]
  · rintro i ⟨hi, he⟩
    by_cases hlt : i < l.length
    · obtain ⟨x, hx, hxm, hty⟩ := take_get hlt
      have hd : l.drop i = x :: l.drop (i + 1) := by rw [List.drop_eq_getElem_cons hlt, (List.getElem?_eq_some_iff.1 hx).2]
      rw [hd, setsR, ← hty] at he
      have hg : sf n 6 (l.map SetN.pv) = .sl 6 (l.map SetN.pv) := sf_get (i := i) (by rw [List.length_map]; exact hlt)
      have hC := refcol_spec (s := s) (c := x.col) hs
      have hbx := hb x hxm
      clear hd hty hxm hb
      rcases Int.lt_or_le x.col 1 with c1 | c1
      · have : setB s x = false := setB_out s x (by
          rcases Int.lt_or_le x.col 0 with h | h
          · left; unfold inB; simp; omega
          · right; omega)
        rw [this, Bool.false_and, Bool.false_and] at he
        rw [he]
        simp -implicitDefEqProofs (maxSteps := 4000000) (disch := omega) only [go_sem, go_sem_proc, dr, Nat.min_def, ↓Nat.reduceBEq, ↓Nat.reduceEqDiff, ↓Nat.reduceLT, ↓Nat.reduceLeDiff, ↓Int.reduceEq, ↓Int.reduceLT, ↓Int.reduceLE, ↓reduceIte, hx, hg, SetN.pv, hC, bb]
        first | done | ((repeat' split) <;> (change _ = true; kernel_rfl))
      cases hin : inB s x.col with
      | false =>
        rw [setB_out s x (.inl hin), Bool.false_and, Bool.false_and] at he
        rw [he]
        rw [hin] at hC
        simp -implicitDefEqProofs (maxSteps := 4000000) (disch := omega) only [go_sem, go_sem_proc, dr, Nat.min_def, ↓Nat.reduceBEq, ↓Nat.reduceEqDiff, ↓Nat.reduceLT, ↓Nat.reduceLeDiff, ↓Int.reduceEq, ↓Int.reduceLT, ↓Int.reduceLE, ↓reduceIte, hx, hg, SetN.pv, hC, bb]
        first | done | ((repeat' split) <;> (change _ = true; kernel_rfl))
      | true =>
        rw [hin] at hC
        obtain ⟨j, q, hj, hjl, hq, _⟩ := col_at hin
        rw [setB_in s x q j hj (by omega) hjl hq] at he
        have hV := Value_ref (kind := q.kind) (v := x.val) hbx
        rw [hj] at hC
        obtain ⟨c, ad, nl, vk, vi, vb⟩ := x
        dsimp only at hj hV he hC c1 hin
        subst hj
        have c0 : ¬ ((j : Int) = 0) := by omega
        clear hin hbx
        obtain ⟨w, hw⟩ : ∃ w, valueB q.kind ⟨nl, vk, vi, vb⟩ = w := ⟨_, rfl⟩
        rw [hw] at hV he
        clear hw
        obtain ⟨na, hna⟩ : ∃ na, na = nl := ⟨_, rfl⟩
        obtain ⟨da, hda⟩ : ∃ da, da = ad := ⟨_, rfl⟩
        rcases Classical.propComplete (q.kind = 1) with k1 | k1 <;> cases w <;> cases nl <;> cases ad <;> (obtain ⟨qn, qk, qnl⟩ := q) <;> cases qnl <;> dsimp only at hV he k1 <;> simp only [k1, bb] at he <;> (try rw [show setsR s [] l = false from he]) <;> (simp -implicitDefEqProofs (maxSteps := 4000000) (disch := omega) only [go_sem, go_sem_proc, dr, Nat.min_def, ↓Nat.reduceBEq, ↓Nat.reduceEqDiff, ↓Nat.reduceLT, ↓Nat.reduceLeDiff, ↓Int.reduceEq, ↓Int.reduceLT, ↓Int.reduceLE, ↓reduceIte, hx, hg, SetN.pv, hC, hq, hV, k1, bb]) <;> (first | done | ((repeat' split) <;> (change _ = true; kernel_rfl)) | skip)
        all_goals
          refine ⟨by ((repeat' split) <;> (change _ = true; kernel_rfl)), ?_⟩
          clear hC hV hq hg hx
          refine runs_any (fun k : Nat => (⟨[(1, .sl 6 (l.map SetN.pv)), (2, .pb 1048578 0), (5, .int .i64 i), (6, .pb 1048582 0), (7, .int .i64 k)], [(1048578, some ⟨true, .box [.sl 3 (s.map Col.pv)]⟩), (1048582, some ⟨true, .box [.int .i64 j, .bool da, .bool na, .int .i64 vk, .int .i64 vi, bl vb]⟩)], 1⟩ : St)) (fun k => i - k) 0 (fun k => k ≤ i ∧ ((l.take k).any fun y => decide (y.col = (j : Int))) = false) ⟨Nat.zero_le _, rfl⟩ ?_ ?_
          · simp -implicitDefEqProofs (maxSteps := 4000000) (disch := omega) only [go_sem, go_sem_proc, dr, Nat.min_def, ↓Nat.reduceBEq, ↓Nat.reduceEqDiff, ↓Nat.reduceLT, ↓Nat.reduceLeDiff, ↓Int.reduceEq, ↓Int.reduceLT, ↓Int.reduceLE, ↓reduceIte, hna, hda]
          · rintro k ⟨hk, hk2⟩
            by_cases hki : k < i
            · obtain ⟨y, hy, _, hty⟩ := take_get (show k < l.length by omega)
              by_cases hyc : y.col = (j : Int)
              · have ht : ((l.take i).any fun y => decide (y.col = (j : Int))) = true := List.any_eq_true.2 ⟨y, List.mem_of_getElem? (i := k) (by rw [List.getElem?_take, if_pos hki]; exact hy), decide_eq_true hyc⟩
                rw [ht] at he
                simp only [bb] at he
                rw [he]
                simp -implicitDefEqProofs (maxSteps := 4000000) (disch := omega) only [go_sem, go_sem_proc, dr, Nat.min_def, ↓Nat.reduceBEq, ↓Nat.reduceEqDiff, ↓Nat.reduceLT, ↓Nat.reduceLeDiff, ↓Int.reduceEq, ↓Int.reduceLT, ↓Int.reduceLE, ↓reduceIte, hy, SetN.pv, hyc, bb]
                first | done | ((repeat' split) <;> (change _ = true; kernel_rfl))
              · have hf : ((l.take (k + 1)).any fun y => decide (y.col = (j : Int))) = false := by rw [hty, List.any_append, hk2]; simp [hyc]
                have hyc := eq_false hyc
                clear hty
                simp -implicitDefEqProofs (maxSteps := 4000000) (disch := omega) only [go_sem, go_sem_proc, dr, Nat.min_def, ↓Nat.reduceBEq, ↓Nat.reduceEqDiff, ↓Nat.reduceLT, ↓Nat.reduceLeDiff, ↓Int.reduceEq, ↓Int.reduceLT, ↓Int.reduceLE, ↓reduceIte, hy, SetN.pv, hyc, bb]
                first | exact ⟨k + 1, rfl, ⟨hki, hf⟩, by omega⟩ | exact ⟨by ((repeat' split) <;> (change _ = true; kernel_rfl)), k + 1, rfl, ⟨hki, hf⟩, by omega⟩
            · have hk' : k = i := by omega
              subst hk'
              rw [hk2] at he
              simp only [bb] at he
              have hgn : sf n 6 (l.map SetN.pv) = .sl 6 (l.map SetN.pv) := sf_get (i := k) (by rw [List.length_map]; exact hlt)
              simp -implicitDefEqProofs (maxSteps := 4000000) (disch := omega) only [go_sem, go_sem_proc, dr, Nat.min_def, ↓Nat.reduceBEq, ↓Nat.reduceEqDiff, ↓Nat.reduceLT, ↓Nat.reduceLeDiff, ↓Int.reduceEq, ↓Int.reduceLT, ↓Int.reduceLE, ↓reduceIte, hgn, bb]
              first | exact ⟨k + 1, rfl, ⟨hlt, he⟩, by omega⟩ | exact ⟨by ((repeat' split) <;> (change _ = true; kernel_rfl)), k + 1, rfl, ⟨hlt, he⟩, by omega⟩
    · have hd : l.drop i = [] := List.drop_eq_nil_of_le (by omega)
      rw [hd, setsR] at he
      rw [he]
      have hi' : i = l.length := by omega
      subst hi'
      rcases Classical.propComplete (1 ≤ l.length) with h1 | h1 <;> rcases Classical.propComplete (l.length ≤ 4) with h2 | h2 <;> simp -implicitDefEqProofs (maxSteps := 4000000) (disch := omega) only [go_sem, go_sem_proc, dr, Nat.min_def, ↓Nat.reduceBEq, ↓Nat.reduceEqDiff, ↓Nat.reduceLT, ↓Nat.reduceLeDiff, ↓Int.reduceEq, ↓Int.reduceLT, ↓Int.reduceLE, ↓reduceIte, nc1, nc4, h1, h2, bb] <;> (first | done | ((repeat' split) <;> (change _ = true; kernel_rfl)))
theorem OpOk.b {o : OpN} (h : OpOk o) : True := trivial
structure OpBy (o : OpN) : Prop where
  r : ∀ v ∈ o.row, (bz v.bytes).length ≤ 9223372036854775807
  s : ∀ x ∈ o.sets, (bz x.val.bytes).length ≤ 9223372036854775807
theorem any_in {s : List Col} {l : List Int} {i : Nat} {c : Int} (h : l[i]? = some c) : (l.take (i + 1)).all (inB s) = ((l.take i).all (inB s) && inB s c) := by
  obtain ⟨x, hx, _, ht⟩ := take_get (List.getElem?_eq_some_iff.1 h).1
  rw [h] at hx
  cases hx
  rw [ht, List.all_append]
  simp
theorem colsB_all (s : List Col) (l : List Int) : colsB s l = (decide (1 ≤ l.length) && (decide (l.length ≤ 6) && l.all (inB s))) := by
  unfold colsB
  congr 2
  rw [List.all_eq_not_any_not]
theorem RefOp_spec {s : List Col} {o : OpN} (hs : s.length ≤ 20) (hs1 : 1 ≤ s.length) (ho : OpOk o) (hob : OpBy o) : dw E 9 [.agg [.sl 3 (s.map Col.pv)], .agg [.int .i64 o.kind, sf o.rn 4 (o.row.map Val.pv), .int .i64 o.pred.kind, .int .i64 o.pred.col, .int .i64 o.pred.op, .bool o.pred.val.null, .int .i64 o.pred.val.kind, .int .i64 o.pred.val.int, bl o.pred.val.bytes, pl o.pred.nil o.pred.list, sf o.sn 6 (o.sets.map SetN.pv), sf o.cn 1 (o.cols.map intPV), .int .i64 o.group, sf o.an 2 (o.aggs.map AggN.pv)]] [] = some (.bool (exprB s o), []) := by
  obtain ⟨hp, hr, hse, hc, ha⟩ := ho
  obtain ⟨hbr, hbs⟩ := hob
  have b1 := refnone_TFFFF hp
  have b2 := refnone_FTTFF hp
  have b3 := refnone_FTFFF hp
  have b4 := refnone_FTFTF hp
  have b5 := refnone_FTFFT hp
  have b6 := refnone_FFFFF hp
  have hF := Fits_ref (s := s) (n := o.rn) (r := o.row) hs hbr
  have hO := OkPred_spec hs hp
  have hS := refsets_spec (s := s) (n := o.sn) (l := o.sets) hs hse hbs
  have hA := refaggs_spec (s := s) (n := o.an) (l := o.aggs) hs hs1 ha
  clear hp hr hse ha hbr hbs
  unfold exprB
  rw [look_ok]
  by_cases h1 : o.kind = 1
  · rw [if_pos h1]
    clear b2 b3 b4 b5 b6 hS hA hc
    cases q1 : bareO true false false false false o <;> cases q2 : fits s o.row <;> rw [q1, h1] at b1 <;> rw [q2] at hF <;> (refine dw_in (fn := Try.f9) rfl body9 (by simp) ?_) <;> simp -implicitDefEqProofs (maxSteps := 4000000) (disch := omega) only [go_sem, go_sem_proc, dr, Nat.min_def, ↓Nat.reduceBEq, ↓Nat.reduceEqDiff, ↓Nat.reduceLT, ↓Nat.reduceLeDiff, ↓Int.reduceEq, ↓Int.reduceLT, ↓Int.reduceLE, ↓reduceIte, h1, b1, hF, hO, nc0, nc1, nc4, nc6, ncz, bb] <;> (first | done | ((repeat' split) <;> (change _ = true; kernel_rfl)))
  rw [if_neg h1]
  have h1 := eq_false h1
  by_cases h2 : o.kind = 2
  · rw [if_pos h2]
    clear b1 b3 b4 b5 b6 hF hA hc h1
    cases q1 : bareO false true true false false o <;> cases q2 : okP s o.pred <;> cases q3 : setsB s o.sets <;> rw [q1, h2] at b2 <;> rw [q2] at hO <;> rw [q3] at hS <;> (refine dw_in (fn := Try.f9) rfl body9 (by simp) ?_) <;> simp -implicitDefEqProofs (maxSteps := 4000000) (disch := omega) only [go_sem, go_sem_proc, dr, Nat.min_def, ↓Nat.reduceBEq, ↓Nat.reduceEqDiff, ↓Nat.reduceLT, ↓Nat.reduceLeDiff, ↓Int.reduceEq, ↓Int.reduceLT, ↓Int.reduceLE, ↓reduceIte, h2, b2, hO, hS, nc0, nc1, nc4, nc6, ncz, bb] <;> (first | done | ((repeat' split) <;> (change _ = true; kernel_rfl)))
  rw [if_neg h2]
  have h2 := eq_false h2
  by_cases h3 : o.kind = 3
  · rw [if_pos h3]
    clear b1 b2 b4 b5 b6 hF hS hA hc h1 h2
    cases q1 : bareO false true false false false o <;> cases q2 : okP s o.pred <;> rw [q1, h3] at b3 <;> rw [q2] at hO <;> (refine dw_in (fn := Try.f9) rfl body9 (by simp) ?_) <;> simp -implicitDefEqProofs (maxSteps := 4000000) (disch := omega) only [go_sem, go_sem_proc, dr, Nat.min_def, ↓Nat.reduceBEq, ↓Nat.reduceEqDiff, ↓Nat.reduceLT, ↓Nat.reduceLeDiff, ↓Int.reduceEq, ↓Int.reduceLT, ↓Int.reduceLE, ↓reduceIte, h3, b3, hO, nc0, nc1, nc4, nc6, ncz, bb] <;> (first | done | ((repeat' split) <;> (change _ = true; kernel_rfl)))
  rw [if_neg h3]
  have h3 := eq_false h3
  by_cases h4 : o.kind = 4
  · rw [if_pos h4, colsB_all]
    clear b1 b2 b3 b5 b6 hF hS hA h1 h2 h3
    rw [h4] at b4
    refine dw_in (fn := Try.f9) rfl body9 (by simp) ?_
    simp -implicitDefEqProofs (maxSteps := 4000000) (disch := omega) only [go_sem, go_sem_proc, dr, Nat.min_def, ↓Nat.reduceBEq, ↓Nat.reduceEqDiff, ↓Nat.reduceLT, ↓Nat.reduceLeDiff, ↓Int.reduceEq, ↓Int.reduceLT, ↓Int.reduceLE, ↓reduceIte, h4, hO, nc0, nc1, nc4, nc6, ncz, bb]
    refine runs_any (fun i : Nat => (⟨[(2, .pb 1048578 0), (3, .pb 1048579 0), (5, .bool (okP s o.pred && (o.cols.take i).all (inB s))), (6, .int .i64 i)], [(1048578, some ⟨true, .box [.sl 3 (s.map Col.pv)]⟩), (1048579, some ⟨true, .box [.int .i64 4, sf o.rn 4 (o.row.map Val.pv), .int .i64 o.pred.kind, .int .i64 o.pred.col, .int .i64 o.pred.op, .bool o.pred.val.null, .int .i64 o.pred.val.kind, .int .i64 o.pred.val.int, bl o.pred.val.bytes, pl o.pred.nil o.pred.list, sf o.sn 6 (o.sets.map SetN.pv), sf o.cn 1 (o.cols.map intPV), .int .i64 o.group, sf o.an 2 (o.aggs.map AggN.pv)]⟩)], 1⟩ : St)) (fun i => o.cols.length - i) 0 (fun i => i ≤ o.cols.length) (Nat.zero_le _) ?_ ?_
    · simp -implicitDefEqProofs (maxSteps := 4000000) (disch := omega) only [go_sem, go_sem_proc, dr, Nat.min_def, ↓Nat.reduceBEq, ↓Nat.reduceEqDiff, ↓Nat.reduceLT, ↓Nat.reduceLeDiff, ↓Int.reduceEq, ↓Int.reduceLT, ↓Int.reduceLE, ↓reduceIte, List.take_zero, List.all_nil, bb]
    · intro i hi
      by_cases hlt : i < o.cols.length
      · obtain ⟨c, hx, _, _⟩ := take_get hlt
        have hg : sf o.cn 1 (o.cols.map intPV) = .sl 1 (o.cols.map intPV) := sf_get (i := i) (by rw [List.length_map]; exact hlt)
        have hn := any_in (s := s) hx
        have hI := refcol_spec (s := s) (c := c) hs
        clear b4 hO
        cases q1 : (okP s o.pred && (o.cols.take i).all (inB s)) with
        | false =>
          have hn' : (okP s o.pred && (o.cols.take (i + 1)).all (inB s)) = false := by rw [hn, ← Bool.and_assoc, q1]; rfl
          simp -implicitDefEqProofs (maxSteps := 4000000) (disch := omega) only [go_sem, go_sem_proc, dr, Nat.min_def, ↓Nat.reduceBEq, ↓Nat.reduceEqDiff, ↓Nat.reduceLT, ↓Nat.reduceLeDiff, ↓Int.reduceEq, ↓Int.reduceLT, ↓Int.reduceLE, ↓reduceIte, hx, hg, intPV, hI, q1, hn', nc0, nc1, nc4, nc6, ncz, bb]
          first | exact ⟨i + 1, by rw [hn']; rfl, hlt, by omega⟩ | exact ⟨by ((repeat' split) <;> (change _ = true; kernel_rfl)), i + 1, by rw [hn']; rfl, hlt, by omega⟩
        | true =>
          have hn' : (okP s o.pred && (o.cols.take (i + 1)).all (inB s)) = inB s c := by rw [hn, ← Bool.and_assoc, q1]; rfl
          simp -implicitDefEqProofs (maxSteps := 4000000) (disch := omega) only [go_sem, go_sem_proc, dr, Nat.min_def, ↓Nat.reduceBEq, ↓Nat.reduceEqDiff, ↓Nat.reduceLT, ↓Nat.reduceLeDiff, ↓Int.reduceEq, ↓Int.reduceLT, ↓Int.reduceLE, ↓reduceIte, hx, hg, intPV, hI, q1, hn', nc0, nc1, nc4, nc6, ncz, bb]
          first | exact ⟨i + 1, by rw [hn']; rfl, hlt, by omega⟩ | exact ⟨by ((repeat' split) <;> (change _ = true; kernel_rfl)), i + 1, by rw [hn']; rfl, hlt, by omega⟩
      · have hi' : i = o.cols.length := by omega
        subst hi'
        rw [List.take_length]
        cases q1 : bareO false true false true false o <;> cases q2 : okP s o.pred <;> cases q3 : o.cols.all (inB s) <;> rcases Classical.propComplete (1 ≤ o.cols.length) with g1 | g1 <;> rcases Classical.propComplete (o.cols.length ≤ 6) with g2 | g2 <;> rw [q1] at b4 <;> simp -implicitDefEqProofs (maxSteps := 4000000) (disch := omega) only [go_sem, go_sem_proc, dr, Nat.min_def, ↓Nat.reduceBEq, ↓Nat.reduceEqDiff, ↓Nat.reduceLT, ↓Nat.reduceLeDiff, ↓Int.reduceEq, ↓Int.reduceLT, ↓Int.reduceLE, ↓reduceIte, b4, g1, g2, q2, q3, nc0, nc1, nc4, nc6, ncz, bb] <;> (first | done | ((repeat' split) <;> (change _ = true; kernel_rfl)))
  rw [if_neg h4]
  have h4 := eq_false h4
  by_cases h5 : o.kind = 5
  · rw [if_pos h5]
    have hz : (decide (o.group = -1) || inB s o.group) = (decide (-1 ≤ o.group) && decide (o.group < (s.length : Int))) := by
      unfold inB
      by_cases g : o.group = -1
      · simp [g]; omega
      · rw [decide_eq_false g, Bool.false_or]
        congr 1
        rw [decide_eq_decide]
        omega
    rw [hz]
    clear b1 b2 b3 b4 b6 hF hS hc h1 h2 h3 h4 hz
    cases q1 : bareO false true false false true o <;> cases q2 : okP s o.pred <;> rw [q1, h5] at b5 <;> rw [q2] at hO <;> rcases Classical.propComplete (-1 ≤ o.group) with g1 | g1 <;> rcases Classical.propComplete (o.group < (s.length : Int)) with g2 | g2 <;> (refine dw_in (fn := Try.f9) rfl body9 (by simp) ?_) <;> simp -implicitDefEqProofs (maxSteps := 4000000) (disch := omega) only [go_sem, go_sem_proc, dr, Nat.min_def, ↓Nat.reduceBEq, ↓Nat.reduceEqDiff, ↓Nat.reduceLT, ↓Nat.reduceLeDiff, ↓Int.reduceEq, ↓Int.reduceLT, ↓Int.reduceLE, ↓reduceIte, h5, b5, hO, hA, g1, g2, nc0, nc1, nc4, nc6, ncz, bb] <;> (first | done | ((repeat' split) <;> (change _ = true; kernel_rfl)))
  rw [if_neg h5]
  have h5 := eq_false h5
  by_cases h6 : o.kind = 6
  · rw [if_pos h6]
    rw [h6] at b6
    refine dw_in (fn := Try.f9) rfl body9 (by simp) ?_
    simp -implicitDefEqProofs (maxSteps := 4000000) (disch := omega) only [go_sem, go_sem_proc, dr, Nat.min_def, ↓Nat.reduceBEq, ↓Nat.reduceEqDiff, ↓Nat.reduceLT, ↓Nat.reduceLeDiff, ↓Int.reduceEq, ↓Int.reduceLT, ↓Int.reduceLE, ↓reduceIte, h6, b6, hO, nc0, nc1, nc4, nc6, ncz, bb]
    first | done | ((repeat' split) <;> (change _ = true; kernel_rfl))
  rw [if_neg h6]
  have h6 := eq_false h6
  refine dw_in (fn := Try.f9) rfl body9 (by simp) ?_
  simp -implicitDefEqProofs (maxSteps := 4000000) (disch := omega) only [go_sem, go_sem_proc, dr, Nat.min_def, ↓Nat.reduceBEq, ↓Nat.reduceEqDiff, ↓Nat.reduceLT, ↓Nat.reduceLeDiff, ↓Int.reduceEq, ↓Int.reduceLT, ↓Int.reduceLE, ↓reduceIte, h1, h2, h3, h4, h5, h6, hO, nc0, nc1, nc4, nc6, ncz, bb]
  first | done | ((repeat' split) <;> (change _ = true; kernel_rfl))
theorem RefProgram_spec {s : List Col} {n : Bool} {l : List OpN} (hs : s.length ≤ 20) (hs1 : 1 ≤ s.length) (hl : l.length ≤ 9223372036854775807) (ho : ∀ o ∈ l, OpOk o ∧ OpBy o) : dw E 12 [.agg [.sl 3 (s.map Col.pv)], sf n 14 (l.map OpN.pv)] [] = some (.bool (progB s l), []) := by
  unfold progB
  have nc16 : ((l.length : Int) ≤ 16) = (l.length ≤ 16) := propext (by omega)
  refine dw_in (fn := Try.f12) rfl body12 (by simp) ?_
  simp -implicitDefEqProofs (maxSteps := 4000000) (disch := omega) only [go_sem, go_sem_proc, dr, Nat.min_def, ↓Nat.reduceBEq, ↓Nat.reduceEqDiff, ↓Nat.reduceLT, ↓Nat.reduceLeDiff, ↓Int.reduceEq, ↓Int.reduceLT, ↓Int.reduceLE, ↓reduceIte]
  refine runs_any (fun i : Nat => (⟨[(1, sf n 14 (l.map OpN.pv)), (2, .pb 1048578 0), (5, .int .i64 i)], [(1048578, some ⟨true, .box [.sl 3 (s.map Col.pv)]⟩)], 1⟩ : St)) (fun i => l.length - i) 0 (fun i => i ≤ l.length ∧ (l.any fun o => !exprB s o) = ((l.drop i).any fun o => !exprB s o)) ⟨Nat.zero_le _, rfl⟩ ?_ ?_
  · simp -implicitDefEqProofs (maxSteps := 4000000) (disch := omega) only [go_sem, go_sem_proc, dr, Nat.min_def, ↓Nat.reduceBEq, ↓Nat.reduceEqDiff, ↓Nat.reduceLT, ↓Nat.reduceLeDiff, ↓Int.reduceEq, ↓Int.reduceLT, ↓Int.reduceLE, ↓reduceIte]
  · rintro i ⟨hi, he⟩
    by_cases hlt : i < l.length
    · obtain ⟨o, hx, hxm, _⟩ := take_get hlt
      have hd : l.drop i = o :: l.drop (i + 1) := by rw [List.drop_eq_getElem_cons hlt, (List.getElem?_eq_some_iff.1 hx).2]
      have hg : sf n 14 (l.map OpN.pv) = .sl 14 (l.map OpN.pv) := sf_get (i := i) (by rw [List.length_map]; exact hlt)
      rw [hd, List.any_cons] at he
      have hR := RefOp_spec hs hs1 (ho o hxm).1 (ho o hxm).2
      clear hd hxm ho
      cases q : exprB s o with
      | false =>
        rw [q] at hR he
        simp only [bb] at he
        rw [he]
        simp -implicitDefEqProofs (maxSteps := 4000000) (disch := omega) only [go_sem, go_sem_proc, dr, Nat.min_def, ↓Nat.reduceBEq, ↓Nat.reduceEqDiff, ↓Nat.reduceLT, ↓Nat.reduceLeDiff, ↓Int.reduceEq, ↓Int.reduceLT, ↓Int.reduceLE, ↓reduceIte, hx, hg, OpN.pv, hR, nc0, nc1, nc4, nc6, ncz, bb]
        first | done | ((repeat' split) <;> (change _ = true; kernel_rfl))
      | true =>
        rw [q] at hR he
        simp only [bb] at he
        simp -implicitDefEqProofs (maxSteps := 4000000) (disch := omega) only [go_sem, go_sem_proc, dr, Nat.min_def, ↓Nat.reduceBEq, ↓Nat.reduceEqDiff, ↓Nat.reduceLT, ↓Nat.reduceLeDiff, ↓Int.reduceEq, ↓Int.reduceLT, ↓Int.reduceLE, ↓reduceIte, hx, hg, OpN.pv, hR, nc0, nc1, nc4, nc6, ncz, bb]
        first | exact ⟨i + 1, rfl, ⟨hlt, he⟩, by omega⟩ | exact ⟨by ((repeat' split) <;> (change _ = true; kernel_rfl)), i + 1, rfl, ⟨hlt, he⟩, by omega⟩
    · have hd : l.drop i = [] := List.drop_eq_nil_of_le (by omega)
      rw [hd, List.any_nil] at he
      rw [he]
      clear ho hd
      simp -implicitDefEqProofs (maxSteps := 4000000) (disch := omega) only [go_sem, go_sem_proc, dr, Nat.min_def, ↓Nat.reduceBEq, ↓Nat.reduceEqDiff, ↓Nat.reduceLT, ↓Nat.reduceLeDiff, ↓Int.reduceEq, ↓Int.reduceLT, ↓Int.reduceLE, ↓reduceIte, nc16, nc0, nc1, nc4, nc6, ncz, bb]
      first | done | ((repeat' split) <;> (change _ = true; kernel_rfl))
end Go.Proofs.Ytgbeijemcojnpaa.D
