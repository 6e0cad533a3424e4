/- The document's own numbers of few bits. -/
import Derived.Test.YtepofpmohiegpaaBitp3
namespace Go.Proofs.Ytepofpmohiegpaa.D
open Go Go.Den
set_option linter.unusedSimpArgs false
set_option maxRecDepth 20000
set_option maxHeartbeats 4000000
theorem minmax_held (n : Int) : (if (64 : Int) < (if n < 0 then 0 else n) then 64 else (if n < 0 then 0 else n)) = ((heldN n : Nat) : Int) := by
  unfold heldN
  by_cases h0 : n < 0
  · rw [if_pos h0, if_pos h0, if_neg (by decide)]; rfl
  · rw [if_neg h0, if_neg h0]
    by_cases h1 : 64 < n
    · rw [if_pos h1, if_pos h1]; rfl
    · rw [if_neg h1, if_neg h1]; omega
theorem RPack_spec {n : Int} {l : List Int} (hl : l.length ≤ 100000) (h64 : R64 l) : dw E 49 [.int .i64 n, .sl 1 (ints .u64 l)] [] = some (.nr 5 1 (ints .u8 (packL (heldN n) l)), []) := by
  refine dw_intro (fn := Try.f49) rfl rfl (by decide) ?_
  have hm64 := heldN_le n
  have hmm := minmax_held n
  obtain ⟨m, hm⟩ : ∃ m, heldN n = m := ⟨_, rfl⟩
  rw [hm] at hm64 hmm ⊢
  obtain ⟨L, hL⟩ : ∃ L, (m * l.length + 7) / 8 = L := ⟨_, rfl⟩
  have hLb : m * l.length ≤ 64 * 100000 := Nat.mul_le_mul hm64 hl
  simp -implicitDefEqProofs only [go_sem, ↓reduceIte, reduceCtorEq, reduceDIte, Nat.reduceAdd, Nat.reduceMul, Nat.reduceSub, Nat.reduceBEq, Nat.reduceBNe, Nat.reduceBeqDiff, Nat.reduceLT, Nat.reduceLeDiff, Nat.reduceEqDiff, Nat.reduceDiv, Nat.reduceMod, Nat.reducePow, Int.reduceLT, Int.reduceLE, Int.reduceGT, Int.reduceGE, Int.reduceEq, Int.reduceNe, Int.reduceToNat, Int.reduceNeg, Int.reducePow, Int.reduceAdd, Int.reduceMul, Int.reduceSub, Int.reduceBEq, Int.reduceMod, Int.reduceDiv, Int.reduceNatCast, Nat.min_def, GT.gt, hmm]
  refine runs_loop (fun i : Nat => (⟨[(0, .int .i64 m), (1, .sl 1 (ints .u64 l)), (5, .h 2097472), (6, .int .i64 i)], [(2097472, some ⟨true, .row 5 1 (ints .u8 (bitL (bitsF m l) (m * i)))⟩)], 1⟩ : St)) (fun i => l.length - i) 0 ?_
    (fun i => i ≤ l.length) (by omega) ?_
  · simp -implicitDefEqProofs only [go_sem, ↓reduceIte, reduceCtorEq, reduceDIte, Nat.reduceAdd, Nat.reduceMul, Nat.reduceSub, Nat.reduceBEq, Nat.reduceBNe, Nat.reduceBeqDiff, Nat.reduceLT, Nat.reduceLeDiff, Nat.reduceEqDiff, Nat.reduceDiv, Nat.reduceMod, Nat.reducePow, Int.reduceLT, Int.reduceLE, Int.reduceGT, Int.reduceGE, Int.reduceEq, Int.reduceNe, Int.reduceToNat, Int.reduceNeg, Int.reducePow, Int.reduceAdd, Int.reduceMul, Int.reduceSub, Int.reduceBEq, Int.reduceMod, Int.reduceDiv, Int.reduceNatCast, Nat.min_def]
    rfl
  · intro i hi
    by_cases hlt : i < l.length
    · obtain ⟨u, hc⟩ : ∃ u, l[i]? = some u := ⟨_, List.getElem?_eq_getElem hlt⟩
      obtain ⟨hc0, hc1⟩ := h64 u (List.mem_of_getElem? hc)
      obtain ⟨un, rfl⟩ := Int.eq_ofNat_of_zero_le hc0
      have hlt' : (i : Int) < l.length := by omega
      have ei : 0 ≤ (i : Int) := by omega
      have eni : ((i : Int) + 1 + 9223372036854775808) % 18446744073709551616 - 9223372036854775808 = ((i + 1 : Nat) : Int) := by omega
      have em : ((m : Int) - 1 + 9223372036854775808) % 18446744073709551616 - 9223372036854775808 = (m : Int) - 1 - ((0 : Nat) : Int) := by omega
      have em0 : ((m : Int) - 1 - 0 : Int) = (m : Int) - 1 := by omega
      simp -implicitDefEqProofs only [go_sem, ↓reduceIte, reduceCtorEq, reduceDIte, Nat.reduceAdd, Nat.reduceMul, Nat.reduceSub, Nat.reduceBEq, Nat.reduceBNe, Nat.reduceBeqDiff, Nat.reduceLT, Nat.reduceLeDiff, Nat.reduceEqDiff, Nat.reduceDiv, Nat.reduceMod, Nat.reducePow, Int.reduceLT, Int.reduceLE, Int.reduceGT, Int.reduceGE, Int.reduceEq, Int.reduceNe, Int.reduceToNat, Int.reduceNeg, Int.reducePow, Int.reduceAdd, Int.reduceMul, Int.reduceSub, Int.reduceBEq, Int.reduceMod, Int.reduceDiv, Int.reduceNatCast, Nat.min_def, hlt', ei, hc, em, em0]
      refine runs_loop (fun c : Nat => (⟨[(0, .int .i64 m), (1, .sl 1 (ints .u64 l)), (5, .h 2097472), (6, .int .i64 i), (7, .int .i64 ((m : Int) - 1 - c))], [(2097472, some ⟨true, .row 5 1 (ints .u8 (bitL (bitsF m l) (m * i + c)))⟩)], 1⟩ : St)) (fun c => m - c) 0 ?_
        (fun c => c ≤ m) (by omega) ?_
      · simp -implicitDefEqProofs only [go_sem, ↓reduceIte, reduceCtorEq, reduceDIte, Nat.reduceAdd, Nat.reduceMul, Nat.reduceSub, Nat.reduceBEq, Nat.reduceBNe, Nat.reduceBeqDiff, Nat.reduceLT, Nat.reduceLeDiff, Nat.reduceEqDiff, Nat.reduceDiv, Nat.reduceMod, Nat.reducePow, Int.reduceLT, Int.reduceLE, Int.reduceGT, Int.reduceGE, Int.reduceEq, Int.reduceNe, Int.reduceToNat, Int.reduceNeg, Int.reducePow, Int.reduceAdd, Int.reduceMul, Int.reduceSub, Int.reduceBEq, Int.reduceMod, Int.reduceDiv, Int.reduceNatCast, Nat.min_def, em0, Nat.add_zero]
      · intro c hcm
        by_cases hcl : c < m
        · have hA : m * i + c < m * l.length := by
            have : m * (i + 1) ≤ m * l.length := Nat.mul_le_mul_left m hlt
            rw [Nat.mul_succ] at this; omega
          have hf : bitsF m l (m * i + c) = bitN un (m - 1 - c) := by
            rw [bitsF, Nat.mul_add_div (by omega), Nat.div_eq_of_lt hcl, Nat.mul_add_mod, Nat.mod_eq_of_lt hcl, List.getD_eq_getElem?_getD, Nat.add_zero, hc]
            rfl
          obtain ⟨A, hAe⟩ : ∃ A, m * i + c = A := ⟨_, rfl⟩
          rw [hAe] at hA hf
          have k0 : 0 ≤ (m : Int) - 1 - (c : Int) := by omega
          have k1 : ((m : Int) - 1 - (c : Int)) % 18446744073709551616 = ((m - 1 - c : Nat) : Int) := by omega
          have k2 : m - 1 - c ≤ 64 := by omega
          have k3 : ¬ ((m - 1 - c : Nat) : Int) < 0 := by omega
          have b0 : (((un / 2 ^ (m - 1 - c) : Nat) : Int)) % 2 = ((bitsF m l A : Nat) : Int) := by rw [hf]; rfl
          have hb := bitsF_le m l A
          have b1 : ((bitsF m l A : Nat) : Int) % 256 = ((bitsF m l A : Nat) : Int) := by omega
          have hlim : ((bitL (bitsF m l) A).length + 1) * 2 ≤ 70368744177664 := by rw [bitL_length]; omega
          have c2 : ((m : Int) - 1 - (c : Int) - 1 + 9223372036854775808) % 18446744073709551616 - 9223372036854775808 = (m : Int) - 1 - ((c + 1 : Nat) : Int) := by omega
          simp -implicitDefEqProofs only [go_sem, ↓reduceIte, reduceCtorEq, reduceDIte, Nat.reduceAdd, Nat.reduceMul, Nat.reduceSub, Nat.reduceBEq, Nat.reduceBNe, Nat.reduceBeqDiff, Nat.reduceLT, Nat.reduceLeDiff, Nat.reduceEqDiff, Nat.reduceDiv, Nat.reduceMod, Nat.reducePow, Int.reduceLT, Int.reduceLE, Int.reduceGT, Int.reduceGE, Int.reduceEq, Int.reduceNe, Int.reduceToNat, Int.reduceNeg, Int.reducePow, Int.reduceAdd, Int.reduceMul, Int.reduceSub, Int.reduceBEq, Int.reduceMod, Int.reduceDiv, Int.reduceNatCast, Nat.min_def, hAe, ei, hc, k0, k1, k2, k3, fdiv_pow, and_one, b0, b1, hlim, c2]
          refine ⟨c + 1, by omega, by omega, ?_⟩
          rw [← hAe, ← Nat.add_assoc, bitL_succ]
        · have hcl' : ¬ 0 ≤ (m : Int) - 1 - (c : Int) := by omega
          have hce : c = m := by omega
          simp -implicitDefEqProofs only [go_sem, ↓reduceIte, reduceCtorEq, reduceDIte, Nat.reduceAdd, Nat.reduceMul, Nat.reduceSub, Nat.reduceBEq, Nat.reduceBNe, Nat.reduceBeqDiff, Nat.reduceLT, Nat.reduceLeDiff, Nat.reduceEqDiff, Nat.reduceDiv, Nat.reduceMod, Nat.reducePow, Int.reduceLT, Int.reduceLE, Int.reduceGT, Int.reduceGE, Int.reduceEq, Int.reduceNe, Int.reduceToNat, Int.reduceNeg, Int.reducePow, Int.reduceAdd, Int.reduceMul, Int.reduceSub, Int.reduceBEq, Int.reduceMod, Int.reduceDiv, Int.reduceNatCast, Nat.min_def, hcl', eni]
          exact ⟨i + 1, by omega, by omega, by rw [hce, Nat.mul_succ]⟩
    · have hlt' : ¬ (i : Int) < l.length := by omega
      have hie : i = l.length := by omega
      have g0 : ((m * l.length : Nat) + 7 + 9223372036854775808 : Int) % 18446744073709551616 - 9223372036854775808 = ((m * l.length + 7 : Nat) : Int) := by omega
      have g3 : ((L : Nat) + 9223372036854775808 : Int) % 18446744073709551616 - 9223372036854775808 = (L : Int) := by omega
      have g1 : 0 ≤ (L : Int) := by omega
      have g2 : (L : Int) * 2 ≤ 70368744177664 := by omega
      simp -implicitDefEqProofs only [go_sem, ↓reduceIte, reduceCtorEq, reduceDIte, Nat.reduceAdd, Nat.reduceMul, Nat.reduceSub, Nat.reduceBEq, Nat.reduceBNe, Nat.reduceBeqDiff, Nat.reduceLT, Nat.reduceLeDiff, Nat.reduceEqDiff, Nat.reduceDiv, Nat.reduceMod, Nat.reducePow, Int.reduceLT, Int.reduceLE, Int.reduceGT, Int.reduceGE, Int.reduceEq, Int.reduceNe, Int.reduceToNat, Int.reduceNeg, Int.reducePow, Int.reduceAdd, Int.reduceMul, Int.reduceSub, Int.reduceBEq, Int.reduceMod, Int.reduceDiv, Int.reduceNatCast, Nat.min_def, hlt', hie, bitL_length, g0, tdiv8, hL, g3, g1, g2, Int.le_refl, Int.lt_irrefl]
      refine runs_loop (fun A : Nat => (⟨[(5, .h 2097472), (8, .h 2097664), (9, .int .i64 A)], [(2097472, some ⟨true, .row 5 1 (ints .u8 (bitL (bitsF m l) (m * l.length)))⟩), (2097664, some ⟨true, .row 5 1 (ints .u8 (packed (bitsF m l) A L))⟩)], 1⟩ : St)) (fun A => m * l.length - A) 0 ?_
        (fun A => A ≤ m * l.length) (by omega) ?_
      · simp -implicitDefEqProofs only [go_sem, ↓reduceIte, reduceCtorEq, reduceDIte, Nat.reduceAdd, Nat.reduceMul, Nat.reduceSub, Nat.reduceBEq, Nat.reduceBNe, Nat.reduceBeqDiff, Nat.reduceLT, Nat.reduceLeDiff, Nat.reduceEqDiff, Nat.reduceDiv, Nat.reduceMod, Nat.reducePow, Int.reduceLT, Int.reduceLE, Int.reduceGT, Int.reduceGE, Int.reduceEq, Int.reduceNe, Int.reduceToNat, Int.reduceNeg, Int.reducePow, Int.reduceAdd, Int.reduceMul, Int.reduceSub, Int.reduceBEq, Int.reduceMod, Int.reduceDiv, Int.reduceNatCast, Nat.min_def, packed_zero]
      · intro A hA
        by_cases hAl : A < m * l.length
        · have hAl' : (A : Int) < ((m * l.length : Nat) : Int) := by omega
          have hAL : A / 8 < L := by omega
          have a0 : 0 ≤ ((A / 8 : Nat) : Int) := by omega
          have a00 : 0 ≤ (A : Int) := by omega
          have a1 : (((A / 8 : Nat) : Int) + 9223372036854775808) % 18446744073709551616 - 9223372036854775808 = ((A / 8 : Nat) : Int) := by omega
          have a2 : ((7 : Int) - ((A % 8 : Nat) : Int) + 9223372036854775808) % 18446744073709551616 - 9223372036854775808 = ((7 - A % 8 : Nat) : Int) := by omega
          have a25 : ((7 - A % 8 : Nat) : Int) % 18446744073709551616 = ((7 - A % 8 : Nat) : Int) := by omega
          have a3 : ¬ (((7 - A % 8 : Nat) : Int) < 0) := by omega
          have a4 : 7 - A % 8 ≤ 8 := by omega
          have hb := bitsF_le m l A
          have hb2 : bitsF m l A * 2 ^ (7 - A % 8) < 256 := by
            have h1 : bitsF m l A * 2 ^ (7 - A % 8) ≤ 1 * 2 ^ (7 - A % 8) := Nat.mul_le_mul_right _ hb
            have h2 : 2 ^ (7 - A % 8) ≤ 2 ^ 7 := Nat.pow_le_pow_right (by decide) (by omega)
            omega
          have b2 : ((bitsF m l A : Nat) : Int) * 2 ^ (7 - A % 8) % 256 = ((bitsF m l A * 2 ^ (7 - A % 8) : Nat) : Int) := by
            rw [show ((bitsF m l A : Nat) : Int) * 2 ^ (7 - A % 8) = ((bitsF m l A * 2 ^ (7 - A % 8) : Nat) : Int) by push_cast; rfl]; omega
          have c1 : ((A : Int) + 1 + 9223372036854775808) % 18446744073709551616 - 9223372036854775808 = ((A + 1 : Nat) : Int) := by omega
          simp -implicitDefEqProofs only [go_sem, ↓reduceIte, reduceCtorEq, reduceDIte, Nat.reduceAdd, Nat.reduceMul, Nat.reduceSub, Nat.reduceBEq, Nat.reduceBNe, Nat.reduceBeqDiff, Nat.reduceLT, Nat.reduceLeDiff, Nat.reduceEqDiff, Nat.reduceDiv, Nat.reduceMod, Nat.reducePow, Int.reduceLT, Int.reduceLE, Int.reduceGT, Int.reduceGE, Int.reduceEq, Int.reduceNe, Int.reduceToNat, Int.reduceNeg, Int.reducePow, Int.reduceAdd, Int.reduceMul, Int.reduceSub, Int.reduceBEq, Int.reduceMod, Int.reduceDiv, Int.reduceNatCast, Nat.min_def, bitL_length, hAl, hAl', hAL, a0, a00, a1, a2, a25, a3, a4, tdiv8, tmod8, packed_length, packed_get hAL, bitL_get hAl, b2, bor_pbyte (bitsF_le m l) A, packed_set hAL, c1]
          exact ⟨by change _ = true; kernel_rfl, A + 1, by omega, by omega, rfl⟩
        · have hAe : A = m * l.length := by omega
          simp -implicitDefEqProofs only [go_sem, ↓reduceIte, reduceCtorEq, reduceDIte, Nat.reduceAdd, Nat.reduceMul, Nat.reduceSub, Nat.reduceBEq, Nat.reduceBNe, Nat.reduceBeqDiff, Nat.reduceLT, Nat.reduceLeDiff, Nat.reduceEqDiff, Nat.reduceDiv, Nat.reduceMod, Nat.reducePow, Int.reduceLT, Int.reduceLE, Int.reduceGT, Int.reduceGE, Int.reduceEq, Int.reduceNe, Int.reduceToNat, Int.reduceNeg, Int.reducePow, Int.reduceAdd, Int.reduceMul, Int.reduceSub, Int.reduceBEq, Int.reduceMod, Int.reduceDiv, Int.reduceNatCast, Nat.min_def, bitL_length, hAe, Int.lt_irrefl, packL, hL]
end Go.Proofs.Ytepofpmohiegpaa.D
