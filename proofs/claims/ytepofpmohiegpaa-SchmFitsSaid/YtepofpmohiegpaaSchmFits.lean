/- SchmFits: what the law comes to. -/
import Derived.Test.YtepofpmohiegpaaSchm3
import Derived.Test.YtepofpmohiegpaaDenZl
namespace Go.Proofs.Ytepofpmohiegpaa.D
open Go Go.Den
set_option linter.unusedSimpArgs false
set_option maxRecDepth 20000
set_option maxHeartbeats 4000000
theorem awake6f : dw E 10 [] [] = some (.bool true, []) := dw_of (k := 100) (by kernel_rfl)
theorem SchmFits_spec {n row at' how : Int} : dw E 4 [.int .i64 n, .int .i64 row, .int .i64 at', .int .i64 how] [] = some (.bool true, []) := by
  refine dw_intro (fn := Try.f4) rfl rfl (by decide) ?_
  have hs := schemaN_length n
  have hs1 := schemaN_pos n
  have hf := fits_rowN n row
  obtain ⟨s, hsn⟩ : ∃ s, schemaN n = s := ⟨_, rfl⟩
  have hkind : ∀ c ∈ s, c.kind = 1 ∨ c.kind = 2 := hsn ▸ fun c hc => schemaN_kind hc
  obtain ⟨x, hx⟩ : ∃ x, rowN (schemaN n) row = x := ⟨_, rfl⟩
  rw [hx] at hf
  have hlx : x.length = (schemaN n).length := by rw [← hx, rowN_length]
  rw [hsn] at hs hs1 hf hx hlx
  obtain ⟨sx, hsx⟩ : ∃ t, ((x.map Val.pv).any fun v => v.any sharesP) = t := ⟨_, rfl⟩
  have hl20 : s.length ≤ 20 := by omega
  have hl6 : s.length ≤ 1000000 := by omega
  obtain ⟨v0, hv0⟩ : ∃ v, x[0]? = some v := ⟨_, List.getElem?_eq_getElem (by omega)⟩
  have f1 : fits s (x.take (x.length - 1)) = false := fits_len (by rw [List.length_take]; omega)
  have f2 : fits s (x ++ [⟨v0.null, v0.kind, v0.int, v0.bytes⟩]) = false := fits_len (by simp; omega)
  have g1 : ((x.length : Int) - 1 + 9223372036854775808) % 18446744073709551616 - 9223372036854775808 = ((x.length - 1 : Nat) : Int) := by omega
  have g2 : 0 ≤ ((x.length - 1 : Nat) : Int) := by omega
  have g3 : ((x.length - 1 : Nat) : Int) ≤ x.length := by omega
  have g4 : x.length * 49 ≤ 70368744177664 := by omega
  have g5 : (x.length + 1) * 49 ≤ 70368744177664 := by omega
  have g6 : 0 < x.length := by omega
  have hlz : ((x.length : Int) = 0) = False := eq_false (by omega)
  have h16 := Int.emod_lt_of_pos at' (show (0 : Int) < 256 by decide)
  have h160 := Int.emod_nonneg at' (show (256 : Int) ≠ 0 by decide)
  obtain ⟨k, hk, hkl⟩ : ∃ k : Nat, (at' % 256).tmod x.length = k ∧ k < x.length := by
    rw [Int.tmod_eq_emod_of_nonneg h160]
    have := Int.emod_lt_of_pos (at' % 256) (b := x.length) (by omega)
    have := Int.emod_nonneg (at' % 256) (b := x.length) (by omega)
    exact ⟨(at' % 256 % x.length).toNat, by omega, by omega⟩
  have hk0 : 0 ≤ (k : Int) := by omega
  obtain ⟨c, hc⟩ : ∃ c, s[k]? = some c := ⟨_, List.getElem?_eq_getElem (by omega)⟩
  obtain ⟨v, hv⟩ : ∃ v, x[k]? = some v := ⟨_, List.getElem?_eq_getElem hkl⟩
  have hcl : k < s.length := by omega
  have hck := hkind c (List.mem_of_getElem? hc)
  have hvk : v.kind = c.kind := by
    have hr : rowN s row = x := hx
    rw [← hr, ← hsn] at hv
    rw [← hsn] at hc
    rw [rowN_get hc] at hv
    injection hv with hv
    rw [← hv]
    exact (holds_isV (rowE_holds hc)).2
  have hset := fun w => fits_set hf hc w
  have w0 : holds c ⟨false, 3 - v.kind, 0, none⟩ = false := by
    rcases hck with h | h <;> simp [holds, isV, hvk, h]
  have w1 : holds c ⟨false, 0, 0, none⟩ = false := by
    simp [holds, isV, bz]
  have w2 : holds c ⟨true, v.kind, 0, none⟩ = c.null := by
    rcases hck with h | h <;> simp [holds, isV, hvk, h, bz]
  have w3 : holds c ⟨true, v.kind, 1, none⟩ = false := by
    rcases hck with h | h <;> simp [holds, isV, hvk, h]
  have w4 : holds c ⟨false, 1, 5, some [1]⟩ = false := by
    simp [holds, isV, bz]
  have w5 : holds c ⟨false, 2, 5, none⟩ = false := by
    simp [holds, isV, bz]
  have w6 : holds c ⟨false, 2, 0, some (List.replicate 65 0)⟩ = false := by
    simp [holds, isV, bz]
  have w7 : holds c ⟨false, v.kind, 0, none⟩ = true := by
    rcases hck with h | h <;> simp [holds, isV, hvk, h, bz]
  have hq0 : (3 - v.kind + 9223372036854775808) % 18446744073709551616 - 9223372036854775808 = 3 - v.kind := by rw [hvk]; omega
  have hh : how % 8 = 0 ∨ how % 8 = 1 ∨ how % 8 = 2 ∨ how % 8 = 3 ∨ how % 8 = 4 ∨ how % 8 = 5 ∨ how % 8 = 6 ∨ how % 8 = 7 := by omega
  rcases hh with hh | hh | hh | hh | hh | hh | hh | hh
  · simp -implicitDefEqProofs only [go_sem, ↓reduceIte, reduceCtorEq, reduceDIte, Nat.reduceAdd, Nat.reduceMul, Nat.reduceSub, Nat.reduceBEq, Nat.reduceBNe, Nat.reduceBeqDiff, Nat.reduceLT, Nat.reduceLeDiff, Nat.reduceEqDiff, Nat.reduceDiv, Nat.reduceMod, Nat.reducePow, Int.reduceLT, Int.reduceLE, Int.reduceGT, Int.reduceGE, Int.reduceEq, Int.reduceNe, Int.reduceToNat, Int.reduceNeg, Int.reducePow, Int.reduceAdd, Int.reduceMul, Int.reduceSub, Int.reduceBEq, Int.reduceMod, Int.reduceDiv, Int.reduceNatCast, Nat.min_def, Schema_spec, hsn, Row_spec hl20, hx, hsx, Fits_spec hl6, hf, f1, f2, g1, g2, g3, g4, g5, g6, hv0, take_map, snoc_bl, Nat.zero_add, hlz, hk, hk0, hkl, hv, hh, hq0, set_nils, set_sl, hset, w0, awake6f]
    change _ = true
    cases sx <;> kernel_rfl
  · simp -implicitDefEqProofs only [go_sem, ↓reduceIte, reduceCtorEq, reduceDIte, Nat.reduceAdd, Nat.reduceMul, Nat.reduceSub, Nat.reduceBEq, Nat.reduceBNe, Nat.reduceBeqDiff, Nat.reduceLT, Nat.reduceLeDiff, Nat.reduceEqDiff, Nat.reduceDiv, Nat.reduceMod, Nat.reducePow, Int.reduceLT, Int.reduceLE, Int.reduceGT, Int.reduceGE, Int.reduceEq, Int.reduceNe, Int.reduceToNat, Int.reduceNeg, Int.reducePow, Int.reduceAdd, Int.reduceMul, Int.reduceSub, Int.reduceBEq, Int.reduceMod, Int.reduceDiv, Int.reduceNatCast, Nat.min_def, Schema_spec, hsn, Row_spec hl20, hx, hsx, Fits_spec hl6, hf, f1, f2, g1, g2, g3, g4, g5, g6, hv0, take_map, snoc_bl, Nat.zero_add, hlz, hk, hk0, hkl, hv, hh, hq0, set_nils, set_sl, hset, w1, awake6f]
    change _ = true
    cases sx <;> kernel_rfl
  · simp -implicitDefEqProofs only [go_sem, ↓reduceIte, reduceCtorEq, reduceDIte, Nat.reduceAdd, Nat.reduceMul, Nat.reduceSub, Nat.reduceBEq, Nat.reduceBNe, Nat.reduceBeqDiff, Nat.reduceLT, Nat.reduceLeDiff, Nat.reduceEqDiff, Nat.reduceDiv, Nat.reduceMod, Nat.reducePow, Int.reduceLT, Int.reduceLE, Int.reduceGT, Int.reduceGE, Int.reduceEq, Int.reduceNe, Int.reduceToNat, Int.reduceNeg, Int.reducePow, Int.reduceAdd, Int.reduceMul, Int.reduceSub, Int.reduceBEq, Int.reduceMod, Int.reduceDiv, Int.reduceNatCast, Nat.min_def, Schema_spec, hsn, Row_spec hl20, hx, hsx, Fits_spec hl6, hf, f1, f2, g1, g2, g3, g4, g5, g6, hv0, take_map, snoc_bl, Nat.zero_add, hlz, hk, hk0, hkl, hv, hh, hq0, set_nils, set_sl, hset, w2, hcl, hc, awake6f]
    change _ = true
    cases sx <;> kernel_rfl
  · simp -implicitDefEqProofs only [go_sem, ↓reduceIte, reduceCtorEq, reduceDIte, Nat.reduceAdd, Nat.reduceMul, Nat.reduceSub, Nat.reduceBEq, Nat.reduceBNe, Nat.reduceBeqDiff, Nat.reduceLT, Nat.reduceLeDiff, Nat.reduceEqDiff, Nat.reduceDiv, Nat.reduceMod, Nat.reducePow, Int.reduceLT, Int.reduceLE, Int.reduceGT, Int.reduceGE, Int.reduceEq, Int.reduceNe, Int.reduceToNat, Int.reduceNeg, Int.reducePow, Int.reduceAdd, Int.reduceMul, Int.reduceSub, Int.reduceBEq, Int.reduceMod, Int.reduceDiv, Int.reduceNatCast, Nat.min_def, Schema_spec, hsn, Row_spec hl20, hx, hsx, Fits_spec hl6, hf, f1, f2, g1, g2, g3, g4, g5, g6, hv0, take_map, snoc_bl, Nat.zero_add, hlz, hk, hk0, hkl, hv, hh, hq0, set_nils, set_sl, hset, w3, awake6f]
    change _ = true
    cases sx <;> kernel_rfl
  · simp -implicitDefEqProofs only [go_sem, ↓reduceIte, reduceCtorEq, reduceDIte, Nat.reduceAdd, Nat.reduceMul, Nat.reduceSub, Nat.reduceBEq, Nat.reduceBNe, Nat.reduceBeqDiff, Nat.reduceLT, Nat.reduceLeDiff, Nat.reduceEqDiff, Nat.reduceDiv, Nat.reduceMod, Nat.reducePow, Int.reduceLT, Int.reduceLE, Int.reduceGT, Int.reduceGE, Int.reduceEq, Int.reduceNe, Int.reduceToNat, Int.reduceNeg, Int.reducePow, Int.reduceAdd, Int.reduceMul, Int.reduceSub, Int.reduceBEq, Int.reduceMod, Int.reduceDiv, Int.reduceNatCast, Nat.min_def, Schema_spec, hsn, Row_spec hl20, hx, hsx, Fits_spec hl6, hf, f1, f2, g1, g2, g3, g4, g5, g6, hv0, take_map, snoc_bl, Nat.zero_add, hlz, hk, hk0, hkl, hv, hh, hq0, set_nils, set_sl, hset, w4, awake6f]
    change _ = true
    cases sx <;> kernel_rfl
  · simp -implicitDefEqProofs only [go_sem, ↓reduceIte, reduceCtorEq, reduceDIte, Nat.reduceAdd, Nat.reduceMul, Nat.reduceSub, Nat.reduceBEq, Nat.reduceBNe, Nat.reduceBeqDiff, Nat.reduceLT, Nat.reduceLeDiff, Nat.reduceEqDiff, Nat.reduceDiv, Nat.reduceMod, Nat.reducePow, Int.reduceLT, Int.reduceLE, Int.reduceGT, Int.reduceGE, Int.reduceEq, Int.reduceNe, Int.reduceToNat, Int.reduceNeg, Int.reducePow, Int.reduceAdd, Int.reduceMul, Int.reduceSub, Int.reduceBEq, Int.reduceMod, Int.reduceDiv, Int.reduceNatCast, Nat.min_def, Schema_spec, hsn, Row_spec hl20, hx, hsx, Fits_spec hl6, hf, f1, f2, g1, g2, g3, g4, g5, g6, hv0, take_map, snoc_bl, Nat.zero_add, hlz, hk, hk0, hkl, hv, hh, hq0, set_nils, set_sl, hset, w5, awake6f]
    change _ = true
    cases sx <;> kernel_rfl
  · simp -implicitDefEqProofs only [go_sem, ↓reduceIte, reduceCtorEq, reduceDIte, Nat.reduceAdd, Nat.reduceMul, Nat.reduceSub, Nat.reduceBEq, Nat.reduceBNe, Nat.reduceBeqDiff, Nat.reduceLT, Nat.reduceLeDiff, Nat.reduceEqDiff, Nat.reduceDiv, Nat.reduceMod, Nat.reducePow, Int.reduceLT, Int.reduceLE, Int.reduceGT, Int.reduceGE, Int.reduceEq, Int.reduceNe, Int.reduceToNat, Int.reduceNeg, Int.reducePow, Int.reduceAdd, Int.reduceMul, Int.reduceSub, Int.reduceBEq, Int.reduceMod, Int.reduceDiv, Int.reduceNatCast, Nat.min_def, Schema_spec, hsn, Row_spec hl20, hx, hsx, Fits_spec hl6, hf, f1, f2, g1, g2, g3, g4, g5, g6, hv0, take_map, snoc_bl, Nat.zero_add, hlz, hk, hk0, hkl, hv, hh, hq0, set_nils, set_sl, hset, w6, awake6f]
    change _ = true
    cases sx <;> kernel_rfl
  · simp -implicitDefEqProofs only [go_sem, ↓reduceIte, reduceCtorEq, reduceDIte, Nat.reduceAdd, Nat.reduceMul, Nat.reduceSub, Nat.reduceBEq, Nat.reduceBNe, Nat.reduceBeqDiff, Nat.reduceLT, Nat.reduceLeDiff, Nat.reduceEqDiff, Nat.reduceDiv, Nat.reduceMod, Nat.reducePow, Int.reduceLT, Int.reduceLE, Int.reduceGT, Int.reduceGE, Int.reduceEq, Int.reduceNe, Int.reduceToNat, Int.reduceNeg, Int.reducePow, Int.reduceAdd, Int.reduceMul, Int.reduceSub, Int.reduceBEq, Int.reduceMod, Int.reduceDiv, Int.reduceNatCast, Nat.min_def, Schema_spec, hsn, Row_spec hl20, hx, hsx, Fits_spec hl6, hf, f1, f2, g1, g2, g3, g4, g5, g6, hv0, take_map, snoc_bl, Nat.zero_add, hlz, hk, hk0, hkl, hv, hh, hq0, set_nils, set_sl, hset, w7, awake6f]
    change _ = true
    cases sx <;> kernel_rfl
end Go.Proofs.Ytepofpmohiegpaa.D
