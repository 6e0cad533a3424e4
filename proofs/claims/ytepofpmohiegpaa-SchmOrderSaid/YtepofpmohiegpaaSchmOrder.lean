/- SchmOrder: what the law comes to. -/
import Derived.Test.YtepofpmohiegpaaSchm3
import Derived.Test.YtepofpmohiegpaaDenZl
namespace Go.Proofs.Ytepofpmohiegpaa.D
open Go Go.Den
set_option linter.unusedSimpArgs false
set_option maxRecDepth 20000
set_option maxHeartbeats 4000000
theorem awake6 : dw E 10 [] [] = some (.bool true, []) := dw_of (k := 100) (by kernel_rfl)
theorem SchmOrder_spec {n a b c : Int} : dw E 5 [.int .i64 n, .int .i64 a, .int .i64 b, .int .i64 c] [] = some (.bool true, []) := by
  refine dw_intro (fn := Try.f5) rfl rfl (by decide) ?_
  have hs := schemaN_length n
  obtain ⟨x, hx⟩ : ∃ x, rowN (schemaN n) a = x := ⟨_, rfl⟩
  obtain ⟨y, hy⟩ : ∃ x, rowN (schemaN n) b = x := ⟨_, rfl⟩
  obtain ⟨z, hz⟩ : ∃ x, rowN (schemaN n) c = x := ⟨_, rfl⟩
  have lx : x.length ≤ 6 := by rw [← hx, rowN_length]; exact hs
  have ly : y.length = x.length := by rw [← hy, ← hx, rowN_length, rowN_length]
  have vx : ∀ v ∈ x, isV v = true := hx ▸ rowN_isV n a
  have vy : ∀ v ∈ y, isV v = true := hy ▸ rowN_isV n b
  have kxy : kinds x = kinds y := by rw [← hx, ← hy, rowN_kinds, rowN_kinds]
  have kyz : kinds y = kinds z := by rw [← hy, ← hz, rowN_kinds, rowN_kinds]
  obtain ⟨i, hi⟩ : ∃ i, cmpRows x y = i := ⟨_, rfl⟩
  obtain ⟨j, hj⟩ : ∃ i, cmpRows y z = i := ⟨_, rfl⟩
  obtain ⟨k, hk⟩ : ∃ i, cmpRows x z = i := ⟨_, rfl⟩
  have hyx : cmpRows y x = -i := by rw [cmpRows_anti kxy, hi]
  have ri := cmpRows_range x y
  rw [hi] at ri
  have hneg : (0 - i + 9223372036854775808) % 18446744073709551616 - 9223372036854775808 = -i := by omega
  have hsame : sameR x y = decide (i = 0) := by
    have := cmpRows_zero kxy vx vy
    rw [hi] at this
    by_cases h : i = 0
    · rw [this.1 h]; simp [h]
    · cases hs : sameR x y
      · simp [h]
      · exact absurd (this.2 hs) h
  have t1 : i ≤ 0 → j ≤ 0 → k ≤ 0 := fun h1 h2 => hk ▸ cmpRows_trans kxy kyz (hi ▸ h1) (hj ▸ h2)
  have t2 : i < 0 → j ≤ 0 → k < 0 := fun h1 h2 => by
    have h3 := t1 (by omega) h2
    by_cases h4 : k = 0
    · have hzx : cmpRows z x ≤ 0 := by rw [cmpRows_anti (kxy.trans kyz), hk, h4]; decide
      have := cmpRows_trans kyz (kxy.trans kyz).symm (hj ▸ h2) hzx
      omega
    · omega
  have hl : (schemaN n).length ≤ 20 := by omega
  have hlx : x.length ≤ 1000000 := by omega
  have hly : y.length ≤ 1000000 := by omega
  obtain ⟨sx, hsx⟩ : ∃ s, ((x.map Val.pv).any fun v => v.any sharesP) = s := ⟨_, rfl⟩
  obtain ⟨sy, hsy⟩ : ∃ s, ((y.map Val.pv).any fun v => v.any sharesP) = s := ⟨_, rfl⟩
  obtain ⟨sz, hsz⟩ : ∃ s, ((z.map Val.pv).any fun v => v.any sharesP) = s := ⟨_, rfl⟩
  by_cases i0 : i = 0
  · have p0 := eq_true i0
    have p1 : i ≤ 0 := by omega
    have p2 : ¬ i < 0 := by omega
    by_cases j0 : j ≤ 0
    · have k0 : ¬ 0 < k := by have := t1 p1 j0; omega
      simp -implicitDefEqProofs only [go_sem, ↓reduceIte, reduceCtorEq, reduceDIte, Nat.reduceAdd, Nat.reduceMul, Nat.reduceSub, Nat.reduceBEq, Nat.reduceBNe, Nat.reduceBeqDiff, Nat.reduceLT, Nat.reduceLeDiff, Nat.reduceEqDiff, Nat.reduceDiv, Nat.reduceMod, Nat.reducePow, Int.reduceLT, Int.reduceLE, Int.reduceGT, Int.reduceGE, Int.reduceEq, Int.reduceNe, Int.reduceToNat, Int.reduceNeg, Int.reducePow, Int.reduceAdd, Int.reduceMul, Int.reduceSub, Int.reduceBEq, Int.reduceMod, Int.reduceDiv, Int.reduceNatCast, Nat.min_def, Schema_spec, Row_spec hl, hx, hy, hz, hsx, hsy, hsz, Rows_spec hlx, Rows_spec hly, SameRow_spec hlx, hi, hj, hk, hyx, hneg, hsame, p0, p1, p2, j0, k0]
      refine ⟨by change _ = true; cases sx <;> cases sy <;> cases sz <;> kernel_rfl, ?_⟩
      refine runs_loop (fun q : Nat => (⟨[(10, .h 2097792), (11, .h 2097856), (77, .int .i64 x.length), (78, .int .i64 q)], [(2097792, some ⟨true, .row 38 4 (x.map Val.pv)⟩), (2097856, some ⟨true, .row 38 4 (y.map Val.pv)⟩)], 1⟩ : St)) (fun q => x.length - q) 0 ?_
        (fun q => q ≤ x.length) (by omega) ?_
      · simp -implicitDefEqProofs only [go_sem, ↓reduceIte, reduceCtorEq, reduceDIte, Nat.reduceAdd, Nat.reduceMul, Nat.reduceSub, Nat.reduceBEq, Nat.reduceBNe, Nat.reduceBeqDiff, Nat.reduceLT, Nat.reduceLeDiff, Nat.reduceEqDiff, Nat.reduceDiv, Nat.reduceMod, Nat.reducePow, Int.reduceLT, Int.reduceLE, Int.reduceGT, Int.reduceGE, Int.reduceEq, Int.reduceNe, Int.reduceToNat, Int.reduceNeg, Int.reducePow, Int.reduceAdd, Int.reduceMul, Int.reduceSub, Int.reduceBEq, Int.reduceMod, Int.reduceDiv, Int.reduceNatCast, Nat.min_def]
      · intro q hq
        by_cases hlt : q < x.length
        · obtain ⟨v, hv⟩ : ∃ v, x[q]? = some v := ⟨_, List.getElem?_eq_getElem hlt⟩
          obtain ⟨w, hw⟩ : ∃ w, y[q]? = some w := ⟨_, List.getElem?_eq_getElem (by omega)⟩
          have hlt' : (q : Int) < x.length := by omega
          have hlty : q < y.length := by omega
          have eq0 : 0 ≤ (q : Int) := by omega
          have en : ((q : Int) + 1 + 9223372036854775808) % 18446744073709551616 - 9223372036854775808 = ((q + 1 : Nat) : Int) := by omega
          have hkvw : v.kind = w.kind := by
            have := congrArg (fun l => l[q]?) kxy
            simpa [kinds, hv, hw] using this
          have h1 : cmpV w v = -cmpV v w := cmpV_anti hkvw
          have h2 := cmpV_range v w
          have h3 : (0 - -cmpV v w + 9223372036854775808) % 18446744073709551616 - 9223372036854775808 = cmpV v w := by omega
          have h4 := cmpV_zero hkvw (vx v (List.mem_of_getElem? hv)) (vy w (List.mem_of_getElem? hw))
          obtain ⟨vn, vk, vi, vb⟩ := v
          obtain ⟨wn, wk, wi, wb⟩ := w
          by_cases hc : cmpV ⟨vn, vk, vi, vb⟩ ⟨wn, wk, wi, wb⟩ = 0
          · have hs := h4.1 hc
            have hc' := eq_true hc
            simp -implicitDefEqProofs only [go_sem, ↓reduceIte, reduceCtorEq, reduceDIte, Nat.reduceAdd, Nat.reduceMul, Nat.reduceSub, Nat.reduceBEq, Nat.reduceBNe, Nat.reduceBeqDiff, Nat.reduceLT, Nat.reduceLeDiff, Nat.reduceEqDiff, Nat.reduceDiv, Nat.reduceMod, Nat.reducePow, Int.reduceLT, Int.reduceLE, Int.reduceGT, Int.reduceGE, Int.reduceEq, Int.reduceNe, Int.reduceToNat, Int.reduceNeg, Int.reducePow, Int.reduceAdd, Int.reduceMul, Int.reduceSub, Int.reduceBEq, Int.reduceMod, Int.reduceDiv, Int.reduceNatCast, Nat.min_def, hlt', hlt, hlty, eq0, hv, hw, Compare_spec, SameVal_spec, h1, h3, hc', hs, en]
            exact ⟨by change _ = true; kernel_rfl, by change _ = true; kernel_rfl, q + 1, by omega, by omega, rfl⟩
          · have hs : sameV ⟨vn, vk, vi, vb⟩ ⟨wn, wk, wi, wb⟩ = false := by
              cases h : sameV ⟨vn, vk, vi, vb⟩ ⟨wn, wk, wi, wb⟩
              · rfl
              · exact absurd (h4.2 h) hc
            simp -implicitDefEqProofs only [go_sem, ↓reduceIte, reduceCtorEq, reduceDIte, Nat.reduceAdd, Nat.reduceMul, Nat.reduceSub, Nat.reduceBEq, Nat.reduceBNe, Nat.reduceBeqDiff, Nat.reduceLT, Nat.reduceLeDiff, Nat.reduceEqDiff, Nat.reduceDiv, Nat.reduceMod, Nat.reducePow, Int.reduceLT, Int.reduceLE, Int.reduceGT, Int.reduceGE, Int.reduceEq, Int.reduceNe, Int.reduceToNat, Int.reduceNeg, Int.reducePow, Int.reduceAdd, Int.reduceMul, Int.reduceSub, Int.reduceBEq, Int.reduceMod, Int.reduceDiv, Int.reduceNatCast, Nat.min_def, hlt', hlt, hlty, eq0, hv, hw, Compare_spec, SameVal_spec, h1, h3, hc, hs, en]
            exact ⟨by change _ = true; kernel_rfl, by change _ = true; kernel_rfl, q + 1, by omega, by omega, rfl⟩
        · have hlt' : ¬ (q : Int) < x.length := by omega
          simp -implicitDefEqProofs only [go_sem, ↓reduceIte, reduceCtorEq, reduceDIte, Nat.reduceAdd, Nat.reduceMul, Nat.reduceSub, Nat.reduceBEq, Nat.reduceBNe, Nat.reduceBeqDiff, Nat.reduceLT, Nat.reduceLeDiff, Nat.reduceEqDiff, Nat.reduceDiv, Nat.reduceMod, Nat.reducePow, Int.reduceLT, Int.reduceLE, Int.reduceGT, Int.reduceGE, Int.reduceEq, Int.reduceNe, Int.reduceToNat, Int.reduceNeg, Int.reducePow, Int.reduceAdd, Int.reduceMul, Int.reduceSub, Int.reduceBEq, Int.reduceMod, Int.reduceDiv, Int.reduceNatCast, Nat.min_def, hlt', awake6]
    · skip
      simp -implicitDefEqProofs only [go_sem, ↓reduceIte, reduceCtorEq, reduceDIte, Nat.reduceAdd, Nat.reduceMul, Nat.reduceSub, Nat.reduceBEq, Nat.reduceBNe, Nat.reduceBeqDiff, Nat.reduceLT, Nat.reduceLeDiff, Nat.reduceEqDiff, Nat.reduceDiv, Nat.reduceMod, Nat.reducePow, Int.reduceLT, Int.reduceLE, Int.reduceGT, Int.reduceGE, Int.reduceEq, Int.reduceNe, Int.reduceToNat, Int.reduceNeg, Int.reducePow, Int.reduceAdd, Int.reduceMul, Int.reduceSub, Int.reduceBEq, Int.reduceMod, Int.reduceDiv, Int.reduceNatCast, Nat.min_def, Schema_spec, Row_spec hl, hx, hy, hz, hsx, hsy, hsz, Rows_spec hlx, Rows_spec hly, SameRow_spec hlx, hi, hj, hk, hyx, hneg, hsame, p0, p1, p2, j0]
      refine ⟨by change _ = true; cases sx <;> cases sy <;> cases sz <;> kernel_rfl, ?_⟩
      refine runs_loop (fun q : Nat => (⟨[(10, .h 2097792), (11, .h 2097856), (77, .int .i64 x.length), (78, .int .i64 q)], [(2097792, some ⟨true, .row 38 4 (x.map Val.pv)⟩), (2097856, some ⟨true, .row 38 4 (y.map Val.pv)⟩)], 1⟩ : St)) (fun q => x.length - q) 0 ?_
        (fun q => q ≤ x.length) (by omega) ?_
      · simp -implicitDefEqProofs only [go_sem, ↓reduceIte, reduceCtorEq, reduceDIte, Nat.reduceAdd, Nat.reduceMul, Nat.reduceSub, Nat.reduceBEq, Nat.reduceBNe, Nat.reduceBeqDiff, Nat.reduceLT, Nat.reduceLeDiff, Nat.reduceEqDiff, Nat.reduceDiv, Nat.reduceMod, Nat.reducePow, Int.reduceLT, Int.reduceLE, Int.reduceGT, Int.reduceGE, Int.reduceEq, Int.reduceNe, Int.reduceToNat, Int.reduceNeg, Int.reducePow, Int.reduceAdd, Int.reduceMul, Int.reduceSub, Int.reduceBEq, Int.reduceMod, Int.reduceDiv, Int.reduceNatCast, Nat.min_def]
      · intro q hq
        by_cases hlt : q < x.length
        · obtain ⟨v, hv⟩ : ∃ v, x[q]? = some v := ⟨_, List.getElem?_eq_getElem hlt⟩
          obtain ⟨w, hw⟩ : ∃ w, y[q]? = some w := ⟨_, List.getElem?_eq_getElem (by omega)⟩
          have hlt' : (q : Int) < x.length := by omega
          have hlty : q < y.length := by omega
          have eq0 : 0 ≤ (q : Int) := by omega
          have en : ((q : Int) + 1 + 9223372036854775808) % 18446744073709551616 - 9223372036854775808 = ((q + 1 : Nat) : Int) := by omega
          have hkvw : v.kind = w.kind := by
            have := congrArg (fun l => l[q]?) kxy
            simpa [kinds, hv, hw] using this
          have h1 : cmpV w v = -cmpV v w := cmpV_anti hkvw
          have h2 := cmpV_range v w
          have h3 : (0 - -cmpV v w + 9223372036854775808) % 18446744073709551616 - 9223372036854775808 = cmpV v w := by omega
          have h4 := cmpV_zero hkvw (vx v (List.mem_of_getElem? hv)) (vy w (List.mem_of_getElem? hw))
          obtain ⟨vn, vk, vi, vb⟩ := v
          obtain ⟨wn, wk, wi, wb⟩ := w
          by_cases hc : cmpV ⟨vn, vk, vi, vb⟩ ⟨wn, wk, wi, wb⟩ = 0
          · have hs := h4.1 hc
            have hc' := eq_true hc
            simp -implicitDefEqProofs only [go_sem, ↓reduceIte, reduceCtorEq, reduceDIte, Nat.reduceAdd, Nat.reduceMul, Nat.reduceSub, Nat.reduceBEq, Nat.reduceBNe, Nat.reduceBeqDiff, Nat.reduceLT, Nat.reduceLeDiff, Nat.reduceEqDiff, Nat.reduceDiv, Nat.reduceMod, Nat.reducePow, Int.reduceLT, Int.reduceLE, Int.reduceGT, Int.reduceGE, Int.reduceEq, Int.reduceNe, Int.reduceToNat, Int.reduceNeg, Int.reducePow, Int.reduceAdd, Int.reduceMul, Int.reduceSub, Int.reduceBEq, Int.reduceMod, Int.reduceDiv, Int.reduceNatCast, Nat.min_def, hlt', hlt, hlty, eq0, hv, hw, Compare_spec, SameVal_spec, h1, h3, hc', hs, en]
            exact ⟨by change _ = true; kernel_rfl, by change _ = true; kernel_rfl, q + 1, by omega, by omega, rfl⟩
          · have hs : sameV ⟨vn, vk, vi, vb⟩ ⟨wn, wk, wi, wb⟩ = false := by
              cases h : sameV ⟨vn, vk, vi, vb⟩ ⟨wn, wk, wi, wb⟩
              · rfl
              · exact absurd (h4.2 h) hc
            simp -implicitDefEqProofs only [go_sem, ↓reduceIte, reduceCtorEq, reduceDIte, Nat.reduceAdd, Nat.reduceMul, Nat.reduceSub, Nat.reduceBEq, Nat.reduceBNe, Nat.reduceBeqDiff, Nat.reduceLT, Nat.reduceLeDiff, Nat.reduceEqDiff, Nat.reduceDiv, Nat.reduceMod, Nat.reducePow, Int.reduceLT, Int.reduceLE, Int.reduceGT, Int.reduceGE, Int.reduceEq, Int.reduceNe, Int.reduceToNat, Int.reduceNeg, Int.reducePow, Int.reduceAdd, Int.reduceMul, Int.reduceSub, Int.reduceBEq, Int.reduceMod, Int.reduceDiv, Int.reduceNatCast, Nat.min_def, hlt', hlt, hlty, eq0, hv, hw, Compare_spec, SameVal_spec, h1, h3, hc, hs, en]
            exact ⟨by change _ = true; kernel_rfl, by change _ = true; kernel_rfl, q + 1, by omega, by omega, rfl⟩
        · have hlt' : ¬ (q : Int) < x.length := by omega
          simp -implicitDefEqProofs only [go_sem, ↓reduceIte, reduceCtorEq, reduceDIte, Nat.reduceAdd, Nat.reduceMul, Nat.reduceSub, Nat.reduceBEq, Nat.reduceBNe, Nat.reduceBeqDiff, Nat.reduceLT, Nat.reduceLeDiff, Nat.reduceEqDiff, Nat.reduceDiv, Nat.reduceMod, Nat.reducePow, Int.reduceLT, Int.reduceLE, Int.reduceGT, Int.reduceGE, Int.reduceEq, Int.reduceNe, Int.reduceToNat, Int.reduceNeg, Int.reducePow, Int.reduceAdd, Int.reduceMul, Int.reduceSub, Int.reduceBEq, Int.reduceMod, Int.reduceDiv, Int.reduceNatCast, Nat.min_def, hlt', awake6]
  · have p0 := eq_false i0
    by_cases in0 : i < 0
    · have p1 : i ≤ 0 := by omega
      by_cases j0 : j ≤ 0
      · have k1 : ¬ 0 ≤ k := by have := t2 in0 j0; omega
        have k0 : ¬ 0 < k := by omega
        simp -implicitDefEqProofs only [go_sem, ↓reduceIte, reduceCtorEq, reduceDIte, Nat.reduceAdd, Nat.reduceMul, Nat.reduceSub, Nat.reduceBEq, Nat.reduceBNe, Nat.reduceBeqDiff, Nat.reduceLT, Nat.reduceLeDiff, Nat.reduceEqDiff, Nat.reduceDiv, Nat.reduceMod, Nat.reducePow, Int.reduceLT, Int.reduceLE, Int.reduceGT, Int.reduceGE, Int.reduceEq, Int.reduceNe, Int.reduceToNat, Int.reduceNeg, Int.reducePow, Int.reduceAdd, Int.reduceMul, Int.reduceSub, Int.reduceBEq, Int.reduceMod, Int.reduceDiv, Int.reduceNatCast, Nat.min_def, Schema_spec, Row_spec hl, hx, hy, hz, hsx, hsy, hsz, Rows_spec hlx, Rows_spec hly, SameRow_spec hlx, hi, hj, hk, hyx, hneg, hsame, p0, p1, in0, j0, k0, k1]
        refine ⟨by change _ = true; cases sx <;> cases sy <;> cases sz <;> kernel_rfl, ?_⟩
        refine runs_loop (fun q : Nat => (⟨[(10, .h 2097792), (11, .h 2097856), (77, .int .i64 x.length), (78, .int .i64 q)], [(2097792, some ⟨true, .row 38 4 (x.map Val.pv)⟩), (2097856, some ⟨true, .row 38 4 (y.map Val.pv)⟩)], 1⟩ : St)) (fun q => x.length - q) 0 ?_
          (fun q => q ≤ x.length) (by omega) ?_
        · simp -implicitDefEqProofs only [go_sem, ↓reduceIte, reduceCtorEq, reduceDIte, Nat.reduceAdd, Nat.reduceMul, Nat.reduceSub, Nat.reduceBEq, Nat.reduceBNe, Nat.reduceBeqDiff, Nat.reduceLT, Nat.reduceLeDiff, Nat.reduceEqDiff, Nat.reduceDiv, Nat.reduceMod, Nat.reducePow, Int.reduceLT, Int.reduceLE, Int.reduceGT, Int.reduceGE, Int.reduceEq, Int.reduceNe, Int.reduceToNat, Int.reduceNeg, Int.reducePow, Int.reduceAdd, Int.reduceMul, Int.reduceSub, Int.reduceBEq, Int.reduceMod, Int.reduceDiv, Int.reduceNatCast, Nat.min_def]
        · intro q hq
          by_cases hlt : q < x.length
          · obtain ⟨v, hv⟩ : ∃ v, x[q]? = some v := ⟨_, List.getElem?_eq_getElem hlt⟩
            obtain ⟨w, hw⟩ : ∃ w, y[q]? = some w := ⟨_, List.getElem?_eq_getElem (by omega)⟩
            have hlt' : (q : Int) < x.length := by omega
            have hlty : q < y.length := by omega
            have eq0 : 0 ≤ (q : Int) := by omega
            have en : ((q : Int) + 1 + 9223372036854775808) % 18446744073709551616 - 9223372036854775808 = ((q + 1 : Nat) : Int) := by omega
            have hkvw : v.kind = w.kind := by
              have := congrArg (fun l => l[q]?) kxy
              simpa [kinds, hv, hw] using this
            have h1 : cmpV w v = -cmpV v w := cmpV_anti hkvw
            have h2 := cmpV_range v w
            have h3 : (0 - -cmpV v w + 9223372036854775808) % 18446744073709551616 - 9223372036854775808 = cmpV v w := by omega
            have h4 := cmpV_zero hkvw (vx v (List.mem_of_getElem? hv)) (vy w (List.mem_of_getElem? hw))
            obtain ⟨vn, vk, vi, vb⟩ := v
            obtain ⟨wn, wk, wi, wb⟩ := w
            by_cases hc : cmpV ⟨vn, vk, vi, vb⟩ ⟨wn, wk, wi, wb⟩ = 0
            · have hs := h4.1 hc
              have hc' := eq_true hc
              simp -implicitDefEqProofs only [go_sem, ↓reduceIte, reduceCtorEq, reduceDIte, Nat.reduceAdd, Nat.reduceMul, Nat.reduceSub, Nat.reduceBEq, Nat.reduceBNe, Nat.reduceBeqDiff, Nat.reduceLT, Nat.reduceLeDiff, Nat.reduceEqDiff, Nat.reduceDiv, Nat.reduceMod, Nat.reducePow, Int.reduceLT, Int.reduceLE, Int.reduceGT, Int.reduceGE, Int.reduceEq, Int.reduceNe, Int.reduceToNat, Int.reduceNeg, Int.reducePow, Int.reduceAdd, Int.reduceMul, Int.reduceSub, Int.reduceBEq, Int.reduceMod, Int.reduceDiv, Int.reduceNatCast, Nat.min_def, hlt', hlt, hlty, eq0, hv, hw, Compare_spec, SameVal_spec, h1, h3, hc', hs, en]
              exact ⟨by change _ = true; kernel_rfl, by change _ = true; kernel_rfl, q + 1, by omega, by omega, rfl⟩
            · have hs : sameV ⟨vn, vk, vi, vb⟩ ⟨wn, wk, wi, wb⟩ = false := by
                cases h : sameV ⟨vn, vk, vi, vb⟩ ⟨wn, wk, wi, wb⟩
                · rfl
                · exact absurd (h4.2 h) hc
              simp -implicitDefEqProofs only [go_sem, ↓reduceIte, reduceCtorEq, reduceDIte, Nat.reduceAdd, Nat.reduceMul, Nat.reduceSub, Nat.reduceBEq, Nat.reduceBNe, Nat.reduceBeqDiff, Nat.reduceLT, Nat.reduceLeDiff, Nat.reduceEqDiff, Nat.reduceDiv, Nat.reduceMod, Nat.reducePow, Int.reduceLT, Int.reduceLE, Int.reduceGT, Int.reduceGE, Int.reduceEq, Int.reduceNe, Int.reduceToNat, Int.reduceNeg, Int.reducePow, Int.reduceAdd, Int.reduceMul, Int.reduceSub, Int.reduceBEq, Int.reduceMod, Int.reduceDiv, Int.reduceNatCast, Nat.min_def, hlt', hlt, hlty, eq0, hv, hw, Compare_spec, SameVal_spec, h1, h3, hc, hs, en]
              exact ⟨by change _ = true; kernel_rfl, by change _ = true; kernel_rfl, q + 1, by omega, by omega, rfl⟩
          · have hlt' : ¬ (q : Int) < x.length := by omega
            simp -implicitDefEqProofs only [go_sem, ↓reduceIte, reduceCtorEq, reduceDIte, Nat.reduceAdd, Nat.reduceMul, Nat.reduceSub, Nat.reduceBEq, Nat.reduceBNe, Nat.reduceBeqDiff, Nat.reduceLT, Nat.reduceLeDiff, Nat.reduceEqDiff, Nat.reduceDiv, Nat.reduceMod, Nat.reducePow, Int.reduceLT, Int.reduceLE, Int.reduceGT, Int.reduceGE, Int.reduceEq, Int.reduceNe, Int.reduceToNat, Int.reduceNeg, Int.reducePow, Int.reduceAdd, Int.reduceMul, Int.reduceSub, Int.reduceBEq, Int.reduceMod, Int.reduceDiv, Int.reduceNatCast, Nat.min_def, hlt', awake6]
      · skip
        simp -implicitDefEqProofs only [go_sem, ↓reduceIte, reduceCtorEq, reduceDIte, Nat.reduceAdd, Nat.reduceMul, Nat.reduceSub, Nat.reduceBEq, Nat.reduceBNe, Nat.reduceBeqDiff, Nat.reduceLT, Nat.reduceLeDiff, Nat.reduceEqDiff, Nat.reduceDiv, Nat.reduceMod, Nat.reducePow, Int.reduceLT, Int.reduceLE, Int.reduceGT, Int.reduceGE, Int.reduceEq, Int.reduceNe, Int.reduceToNat, Int.reduceNeg, Int.reducePow, Int.reduceAdd, Int.reduceMul, Int.reduceSub, Int.reduceBEq, Int.reduceMod, Int.reduceDiv, Int.reduceNatCast, Nat.min_def, Schema_spec, Row_spec hl, hx, hy, hz, hsx, hsy, hsz, Rows_spec hlx, Rows_spec hly, SameRow_spec hlx, hi, hj, hk, hyx, hneg, hsame, p0, p1, in0, j0]
        refine ⟨by change _ = true; cases sx <;> cases sy <;> cases sz <;> kernel_rfl, ?_⟩
        refine runs_loop (fun q : Nat => (⟨[(10, .h 2097792), (11, .h 2097856), (77, .int .i64 x.length), (78, .int .i64 q)], [(2097792, some ⟨true, .row 38 4 (x.map Val.pv)⟩), (2097856, some ⟨true, .row 38 4 (y.map Val.pv)⟩)], 1⟩ : St)) (fun q => x.length - q) 0 ?_
          (fun q => q ≤ x.length) (by omega) ?_
        · simp -implicitDefEqProofs only [go_sem, ↓reduceIte, reduceCtorEq, reduceDIte, Nat.reduceAdd, Nat.reduceMul, Nat.reduceSub, Nat.reduceBEq, Nat.reduceBNe, Nat.reduceBeqDiff, Nat.reduceLT, Nat.reduceLeDiff, Nat.reduceEqDiff, Nat.reduceDiv, Nat.reduceMod, Nat.reducePow, Int.reduceLT, Int.reduceLE, Int.reduceGT, Int.reduceGE, Int.reduceEq, Int.reduceNe, Int.reduceToNat, Int.reduceNeg, Int.reducePow, Int.reduceAdd, Int.reduceMul, Int.reduceSub, Int.reduceBEq, Int.reduceMod, Int.reduceDiv, Int.reduceNatCast, Nat.min_def]
        · intro q hq
          by_cases hlt : q < x.length
          · obtain ⟨v, hv⟩ : ∃ v, x[q]? = some v := ⟨_, List.getElem?_eq_getElem hlt⟩
            obtain ⟨w, hw⟩ : ∃ w, y[q]? = some w := ⟨_, List.getElem?_eq_getElem (by omega)⟩
            have hlt' : (q : Int) < x.length := by omega
            have hlty : q < y.length := by omega
            have eq0 : 0 ≤ (q : Int) := by omega
            have en : ((q : Int) + 1 + 9223372036854775808) % 18446744073709551616 - 9223372036854775808 = ((q + 1 : Nat) : Int) := by omega
            have hkvw : v.kind = w.kind := by
              have := congrArg (fun l => l[q]?) kxy
              simpa [kinds, hv, hw] using this
            have h1 : cmpV w v = -cmpV v w := cmpV_anti hkvw
            have h2 := cmpV_range v w
            have h3 : (0 - -cmpV v w + 9223372036854775808) % 18446744073709551616 - 9223372036854775808 = cmpV v w := by omega
            have h4 := cmpV_zero hkvw (vx v (List.mem_of_getElem? hv)) (vy w (List.mem_of_getElem? hw))
            obtain ⟨vn, vk, vi, vb⟩ := v
            obtain ⟨wn, wk, wi, wb⟩ := w
            by_cases hc : cmpV ⟨vn, vk, vi, vb⟩ ⟨wn, wk, wi, wb⟩ = 0
            · have hs := h4.1 hc
              have hc' := eq_true hc
              simp -implicitDefEqProofs only [go_sem, ↓reduceIte, reduceCtorEq, reduceDIte, Nat.reduceAdd, Nat.reduceMul, Nat.reduceSub, Nat.reduceBEq, Nat.reduceBNe, Nat.reduceBeqDiff, Nat.reduceLT, Nat.reduceLeDiff, Nat.reduceEqDiff, Nat.reduceDiv, Nat.reduceMod, Nat.reducePow, Int.reduceLT, Int.reduceLE, Int.reduceGT, Int.reduceGE, Int.reduceEq, Int.reduceNe, Int.reduceToNat, Int.reduceNeg, Int.reducePow, Int.reduceAdd, Int.reduceMul, Int.reduceSub, Int.reduceBEq, Int.reduceMod, Int.reduceDiv, Int.reduceNatCast, Nat.min_def, hlt', hlt, hlty, eq0, hv, hw, Compare_spec, SameVal_spec, h1, h3, hc', hs, en]
              exact ⟨by change _ = true; kernel_rfl, by change _ = true; kernel_rfl, q + 1, by omega, by omega, rfl⟩
            · have hs : sameV ⟨vn, vk, vi, vb⟩ ⟨wn, wk, wi, wb⟩ = false := by
                cases h : sameV ⟨vn, vk, vi, vb⟩ ⟨wn, wk, wi, wb⟩
                · rfl
                · exact absurd (h4.2 h) hc
              simp -implicitDefEqProofs only [go_sem, ↓reduceIte, reduceCtorEq, reduceDIte, Nat.reduceAdd, Nat.reduceMul, Nat.reduceSub, Nat.reduceBEq, Nat.reduceBNe, Nat.reduceBeqDiff, Nat.reduceLT, Nat.reduceLeDiff, Nat.reduceEqDiff, Nat.reduceDiv, Nat.reduceMod, Nat.reducePow, Int.reduceLT, Int.reduceLE, Int.reduceGT, Int.reduceGE, Int.reduceEq, Int.reduceNe, Int.reduceToNat, Int.reduceNeg, Int.reducePow, Int.reduceAdd, Int.reduceMul, Int.reduceSub, Int.reduceBEq, Int.reduceMod, Int.reduceDiv, Int.reduceNatCast, Nat.min_def, hlt', hlt, hlty, eq0, hv, hw, Compare_spec, SameVal_spec, h1, h3, hc, hs, en]
              exact ⟨by change _ = true; kernel_rfl, by change _ = true; kernel_rfl, q + 1, by omega, by omega, rfl⟩
          · have hlt' : ¬ (q : Int) < x.length := by omega
            simp -implicitDefEqProofs only [go_sem, ↓reduceIte, reduceCtorEq, reduceDIte, Nat.reduceAdd, Nat.reduceMul, Nat.reduceSub, Nat.reduceBEq, Nat.reduceBNe, Nat.reduceBeqDiff, Nat.reduceLT, Nat.reduceLeDiff, Nat.reduceEqDiff, Nat.reduceDiv, Nat.reduceMod, Nat.reducePow, Int.reduceLT, Int.reduceLE, Int.reduceGT, Int.reduceGE, Int.reduceEq, Int.reduceNe, Int.reduceToNat, Int.reduceNeg, Int.reducePow, Int.reduceAdd, Int.reduceMul, Int.reduceSub, Int.reduceBEq, Int.reduceMod, Int.reduceDiv, Int.reduceNatCast, Nat.min_def, hlt', awake6]
    · have p1 : ¬ i ≤ 0 := by omega
      simp -implicitDefEqProofs only [go_sem, ↓reduceIte, reduceCtorEq, reduceDIte, Nat.reduceAdd, Nat.reduceMul, Nat.reduceSub, Nat.reduceBEq, Nat.reduceBNe, Nat.reduceBeqDiff, Nat.reduceLT, Nat.reduceLeDiff, Nat.reduceEqDiff, Nat.reduceDiv, Nat.reduceMod, Nat.reducePow, Int.reduceLT, Int.reduceLE, Int.reduceGT, Int.reduceGE, Int.reduceEq, Int.reduceNe, Int.reduceToNat, Int.reduceNeg, Int.reducePow, Int.reduceAdd, Int.reduceMul, Int.reduceSub, Int.reduceBEq, Int.reduceMod, Int.reduceDiv, Int.reduceNatCast, Nat.min_def, Schema_spec, Row_spec hl, hx, hy, hz, hsx, hsy, hsz, Rows_spec hlx, Rows_spec hly, SameRow_spec hlx, hi, hj, hk, hyx, hneg, hsame, p0, p1, in0]
      refine ⟨by change _ = true; cases sx <;> cases sy <;> cases sz <;> kernel_rfl, ?_⟩
      refine runs_loop (fun q : Nat => (⟨[(10, .h 2097792), (11, .h 2097856), (77, .int .i64 x.length), (78, .int .i64 q)], [(2097792, some ⟨true, .row 38 4 (x.map Val.pv)⟩), (2097856, some ⟨true, .row 38 4 (y.map Val.pv)⟩)], 1⟩ : St)) (fun q => x.length - q) 0 ?_
        (fun q => q ≤ x.length) (by omega) ?_
      · simp -implicitDefEqProofs only [go_sem, ↓reduceIte, reduceCtorEq, reduceDIte, Nat.reduceAdd, Nat.reduceMul, Nat.reduceSub, Nat.reduceBEq, Nat.reduceBNe, Nat.reduceBeqDiff, Nat.reduceLT, Nat.reduceLeDiff, Nat.reduceEqDiff, Nat.reduceDiv, Nat.reduceMod, Nat.reducePow, Int.reduceLT, Int.reduceLE, Int.reduceGT, Int.reduceGE, Int.reduceEq, Int.reduceNe, Int.reduceToNat, Int.reduceNeg, Int.reducePow, Int.reduceAdd, Int.reduceMul, Int.reduceSub, Int.reduceBEq, Int.reduceMod, Int.reduceDiv, Int.reduceNatCast, Nat.min_def]
      · intro q hq
        by_cases hlt : q < x.length
        · obtain ⟨v, hv⟩ : ∃ v, x[q]? = some v := ⟨_, List.getElem?_eq_getElem hlt⟩
          obtain ⟨w, hw⟩ : ∃ w, y[q]? = some w := ⟨_, List.getElem?_eq_getElem (by omega)⟩
          have hlt' : (q : Int) < x.length := by omega
          have hlty : q < y.length := by omega
          have eq0 : 0 ≤ (q : Int) := by omega
          have en : ((q : Int) + 1 + 9223372036854775808) % 18446744073709551616 - 9223372036854775808 = ((q + 1 : Nat) : Int) := by omega
          have hkvw : v.kind = w.kind := by
            have := congrArg (fun l => l[q]?) kxy
            simpa [kinds, hv, hw] using this
          have h1 : cmpV w v = -cmpV v w := cmpV_anti hkvw
          have h2 := cmpV_range v w
          have h3 : (0 - -cmpV v w + 9223372036854775808) % 18446744073709551616 - 9223372036854775808 = cmpV v w := by omega
          have h4 := cmpV_zero hkvw (vx v (List.mem_of_getElem? hv)) (vy w (List.mem_of_getElem? hw))
          obtain ⟨vn, vk, vi, vb⟩ := v
          obtain ⟨wn, wk, wi, wb⟩ := w
          by_cases hc : cmpV ⟨vn, vk, vi, vb⟩ ⟨wn, wk, wi, wb⟩ = 0
          · have hs := h4.1 hc
            have hc' := eq_true hc
            simp -implicitDefEqProofs only [go_sem, ↓reduceIte, reduceCtorEq, reduceDIte, Nat.reduceAdd, Nat.reduceMul, Nat.reduceSub, Nat.reduceBEq, Nat.reduceBNe, Nat.reduceBeqDiff, Nat.reduceLT, Nat.reduceLeDiff, Nat.reduceEqDiff, Nat.reduceDiv, Nat.reduceMod, Nat.reducePow, Int.reduceLT, Int.reduceLE, Int.reduceGT, Int.reduceGE, Int.reduceEq, Int.reduceNe, Int.reduceToNat, Int.reduceNeg, Int.reducePow, Int.reduceAdd, Int.reduceMul, Int.reduceSub, Int.reduceBEq, Int.reduceMod, Int.reduceDiv, Int.reduceNatCast, Nat.min_def, hlt', hlt, hlty, eq0, hv, hw, Compare_spec, SameVal_spec, h1, h3, hc', hs, en]
            exact ⟨by change _ = true; kernel_rfl, by change _ = true; kernel_rfl, q + 1, by omega, by omega, rfl⟩
          · have hs : sameV ⟨vn, vk, vi, vb⟩ ⟨wn, wk, wi, wb⟩ = false := by
              cases h : sameV ⟨vn, vk, vi, vb⟩ ⟨wn, wk, wi, wb⟩
              · rfl
              · exact absurd (h4.2 h) hc
            simp -implicitDefEqProofs only [go_sem, ↓reduceIte, reduceCtorEq, reduceDIte, Nat.reduceAdd, Nat.reduceMul, Nat.reduceSub, Nat.reduceBEq, Nat.reduceBNe, Nat.reduceBeqDiff, Nat.reduceLT, Nat.reduceLeDiff, Nat.reduceEqDiff, Nat.reduceDiv, Nat.reduceMod, Nat.reducePow, Int.reduceLT, Int.reduceLE, Int.reduceGT, Int.reduceGE, Int.reduceEq, Int.reduceNe, Int.reduceToNat, Int.reduceNeg, Int.reducePow, Int.reduceAdd, Int.reduceMul, Int.reduceSub, Int.reduceBEq, Int.reduceMod, Int.reduceDiv, Int.reduceNatCast, Nat.min_def, hlt', hlt, hlty, eq0, hv, hw, Compare_spec, SameVal_spec, h1, h3, hc, hs, en]
            exact ⟨by change _ = true; kernel_rfl, by change _ = true; kernel_rfl, q + 1, by omega, by omega, rfl⟩
        · have hlt' : ¬ (q : Int) < x.length := by omega
          simp -implicitDefEqProofs only [go_sem, ↓reduceIte, reduceCtorEq, reduceDIte, Nat.reduceAdd, Nat.reduceMul, Nat.reduceSub, Nat.reduceBEq, Nat.reduceBNe, Nat.reduceBeqDiff, Nat.reduceLT, Nat.reduceLeDiff, Nat.reduceEqDiff, Nat.reduceDiv, Nat.reduceMod, Nat.reducePow, Int.reduceLT, Int.reduceLE, Int.reduceGT, Int.reduceGE, Int.reduceEq, Int.reduceNe, Int.reduceToNat, Int.reduceNeg, Int.reducePow, Int.reduceAdd, Int.reduceMul, Int.reduceSub, Int.reduceBEq, Int.reduceMod, Int.reduceDiv, Int.reduceNatCast, Nat.min_def, hlt', awake6]
end Go.Proofs.Ytepofpmohiegpaa.D
