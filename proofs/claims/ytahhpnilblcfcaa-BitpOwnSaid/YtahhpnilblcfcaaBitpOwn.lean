/- BitpOwn: what the law comes to. -/
import Derived.Test.YtahhpnilblcfcaaBitpWidths
namespace Go.Proofs.Ytahhpnilblcfcaa.D
open Go Go.Den
set_option linter.unusedSimpArgs false
set_option maxRecDepth 20000
set_option maxHeartbeats 4000000
theorem BitpOwn_spec {a b c n : Int} (ha : 0 ≤ a ∧ a < 18446744073709551616) (hb : 0 ≤ b ∧ b < 18446744073709551616) (hc : 0 ≤ c ∧ c < 18446744073709551616) : dw E 8 [.int .u64 a, .int .u64 b, .int .u64 c, .int .i64 n] [] = some (.bool true, []) := by
  refine dw_intro (fn := Try.f8) rfl rfl (by decide) ?_
  obtain ⟨m, hm, hm64⟩ : ∃ m : Nat, n % 64 = m ∧ m < 64 := ⟨(n % 64).toNat, by omega, by omega⟩
  have h64 : R64 [a, b, c] := fun z hz => by simp at hz; rcases hz with rfl | rfl | rfl <;> assumption
  obtain ⟨P, hP⟩ : ∃ P, packL m [a, b, c] = P := ⟨_, rfl⟩
  have hP8 : R8 P := hP ▸ packL_R8 m [a, b, c]
  have hPl : P.length ≤ 1000 := by rw [← hP, packL_length]; simp only [List.length_cons, List.length_nil]; omega
  have hun : unpack m P 3 = some [a % ((2 ^ m : Nat) : Int), b % ((2 ^ m : Nat) : Int), c % ((2 ^ m : Nat) : Int)] := by
    rw [← hP]; exact unpack_packL h64 (by omega) (by simp)
  simp -implicitDefEqProofs only [go_sem, ↓reduceIte, reduceCtorEq, reduceDIte, Nat.reduceAdd, Nat.reduceMul, Nat.reduceSub, Nat.reduceBEq, Nat.reduceBNe, Nat.reduceBeqDiff, Nat.reduceLT, Nat.reduceLeDiff, Nat.reduceEqDiff, Nat.reduceDiv, Nat.reduceMod, Nat.reducePow, Int.reduceLT, Int.reduceLE, Int.reduceGT, Int.reduceGE, Int.reduceEq, Int.reduceNe, Int.reduceToNat, Int.reduceNeg, Int.reducePow, Int.reduceAdd, Int.reduceMul, Int.reduceSub, Int.reduceBEq, Int.reduceMod, Int.reduceDiv, Int.reduceNatCast, Nat.min_def, hm, Pack_spec (n := (m : Int)) (l := [a, b, c]) (by simp) h64, heldN_nat (show m ≤ 64 by omega), hP]
  refine ⟨by change _ = true; kernel_rfl, ?_⟩
  have hg : ∀ i : Nat, 0 ≤ (i : Int) := fun i => by omega
  refine runs_loop (fun s : Nat × List Int => (⟨[(0, .int .u64 a), (1, .int .u64 b), (2, .int .u64 c), (3, .int .i64 n), (9, .sl 1 (ints .u64 [a, b, c, 7])), (10, .h 2097792), (11, .h 2097856), (12, .bool true), (42, .int .i64 P.length), (43, .int .i64 s.1)], [(2097792, some ⟨true, .row 5 1 (ints .u8 P)⟩), (2097856, some ⟨true, .row 5 1 (ints .u8 s.2)⟩)], 1⟩ : St)) (fun s => P.length - s.1) (0, P) ?_
    (fun s => s.1 ≤ P.length ∧ s.2.length = P.length) ⟨by omega, rfl⟩ ?_
  · simp -implicitDefEqProofs only [go_sem, ↓reduceIte, reduceCtorEq, reduceDIte, Nat.reduceAdd, Nat.reduceMul, Nat.reduceSub, Nat.reduceBEq, Nat.reduceBNe, Nat.reduceBeqDiff, Nat.reduceLT, Nat.reduceLeDiff, Nat.reduceEqDiff, Nat.reduceDiv, Nat.reduceMod, Nat.reducePow, Int.reduceLT, Int.reduceLE, Int.reduceGT, Int.reduceGE, Int.reduceEq, Int.reduceNe, Int.reduceToNat, Int.reduceNeg, Int.reducePow, Int.reduceAdd, Int.reduceMul, Int.reduceSub, Int.reduceBEq, Int.reduceMod, Int.reduceDiv, Int.reduceNatCast, Nat.min_def]
  · rintro ⟨i, Y⟩ ⟨hi, hY⟩
    dsimp only at hi hY
    have en : ((i : Int) + 1 + 9223372036854775808) % 18446744073709551616 - 9223372036854775808 = ((i + 1 : Nat) : Int) := by omega
    by_cases hlt : i < P.length
    · obtain ⟨x, hx⟩ : ∃ x, Y[i]? = some x := ⟨_, List.getElem?_eq_getElem (by omega)⟩
      have hlt' : (i : Int) < P.length := by omega
      have hltY : i < Y.length := by omega
      simp -implicitDefEqProofs only [go_sem, ↓reduceIte, reduceCtorEq, reduceDIte, Nat.reduceAdd, Nat.reduceMul, Nat.reduceSub, Nat.reduceBEq, Nat.reduceBNe, Nat.reduceBeqDiff, Nat.reduceLT, Nat.reduceLeDiff, Nat.reduceEqDiff, Nat.reduceDiv, Nat.reduceMod, Nat.reducePow, Int.reduceLT, Int.reduceLE, Int.reduceGT, Int.reduceGE, Int.reduceEq, Int.reduceNe, Int.reduceToNat, Int.reduceNeg, Int.reducePow, Int.reduceAdd, Int.reduceMul, Int.reduceSub, Int.reduceBEq, Int.reduceMod, Int.reduceDiv, Int.reduceNatCast, Nat.min_def, hlt', hltY, hg, hx, en]
      exact ⟨(i + 1, Y.set i ((x + 1) % 256)), ⟨by omega, by rw [List.length_set]; exact hY⟩, by omega, rfl⟩
    · have hlt' : ¬ (i : Int) < P.length := by omega
      have hYl : (Y.length + 1) * 2 ≤ 70368744177664 := by omega
      have hun' : unpack (m : Int) P 3 = some [a % ((2 ^ m : Nat) : Int), b % ((2 ^ m : Nat) : Int), c % ((2 ^ m : Nat) : Int)] := hun
      simp -implicitDefEqProofs only [go_sem, ↓reduceIte, reduceCtorEq, reduceDIte, Nat.reduceAdd, Nat.reduceMul, Nat.reduceSub, Nat.reduceBEq, Nat.reduceBNe, Nat.reduceBeqDiff, Nat.reduceLT, Nat.reduceLeDiff, Nat.reduceEqDiff, Nat.reduceDiv, Nat.reduceMod, Nat.reducePow, Int.reduceLT, Int.reduceLE, Int.reduceGT, Int.reduceGE, Int.reduceEq, Int.reduceNe, Int.reduceToNat, Int.reduceNeg, Int.reducePow, Int.reduceAdd, Int.reduceMul, Int.reduceSub, Int.reduceBEq, Int.reduceMod, Int.reduceDiv, Int.reduceNatCast, Nat.min_def, hlt', hYl, hm, Unpack_spec (zs := P) (n := (m : Int)) (c := 3) hP8 (by omega), hun', resU]
      refine runs_loop (fun s : Nat × List Int => (⟨[(0, .int .u64 a), (1, .int .u64 b), (2, .int .u64 c), (3, .int .i64 n), (9, .sl 1 (ints .u64 [a, b, c, 7])), (10, .h 2097792), (12, .bool true), (14, .h 2098048), (15, .bool true), (64, .int .i64 3), (65, .int .i64 s.1)], [(2097792, some ⟨true, .row 5 1 (ints .u8 P)⟩), (2098048, some ⟨true, .row 22 1 (ints .u64 s.2)⟩)], 1⟩ : St)) (fun s => 3 - s.1) (0, [a % ((2 ^ m : Nat) : Int), b % ((2 ^ m : Nat) : Int), c % ((2 ^ m : Nat) : Int)]) ?_
        (fun s => s.1 ≤ 3 ∧ s.2.length = 3) ⟨by omega, rfl⟩ ?_
      · simp -implicitDefEqProofs only [go_sem, ↓reduceIte, reduceCtorEq, reduceDIte, Nat.reduceAdd, Nat.reduceMul, Nat.reduceSub, Nat.reduceBEq, Nat.reduceBNe, Nat.reduceBeqDiff, Nat.reduceLT, Nat.reduceLeDiff, Nat.reduceEqDiff, Nat.reduceDiv, Nat.reduceMod, Nat.reducePow, Int.reduceLT, Int.reduceLE, Int.reduceGT, Int.reduceGE, Int.reduceEq, Int.reduceNe, Int.reduceToNat, Int.reduceNeg, Int.reducePow, Int.reduceAdd, Int.reduceMul, Int.reduceSub, Int.reduceBEq, Int.reduceMod, Int.reduceDiv, Int.reduceNatCast, Nat.min_def]
      · rintro ⟨j, U⟩ ⟨hj, hU⟩
        dsimp only at hj hU
        have ej : ((j : Int) + 1 + 9223372036854775808) % 18446744073709551616 - 9223372036854775808 = ((j + 1 : Nat) : Int) := by omega
        by_cases hlj : j < 3
        · obtain ⟨x, hx⟩ : ∃ x, U[j]? = some x := ⟨_, List.getElem?_eq_getElem (by omega)⟩
          have hlj' : (j : Int) < 3 := by omega
          have hltU : j < U.length := by omega
          simp -implicitDefEqProofs only [go_sem, ↓reduceIte, reduceCtorEq, reduceDIte, Nat.reduceAdd, Nat.reduceMul, Nat.reduceSub, Nat.reduceBEq, Nat.reduceBNe, Nat.reduceBeqDiff, Nat.reduceLT, Nat.reduceLeDiff, Nat.reduceEqDiff, Nat.reduceDiv, Nat.reduceMod, Nat.reducePow, Int.reduceLT, Int.reduceLE, Int.reduceGT, Int.reduceGE, Int.reduceEq, Int.reduceNe, Int.reduceToNat, Int.reduceNeg, Int.reducePow, Int.reduceAdd, Int.reduceMul, Int.reduceSub, Int.reduceBEq, Int.reduceMod, Int.reduceDiv, Int.reduceNatCast, Nat.min_def, hlj', hltU, hg, hx, ej]
          exact ⟨(j + 1, U.set j ((x + 1) % 18446744073709551616)), ⟨by omega, by rw [List.length_set]; exact hU⟩, by omega, rfl⟩
        · have hlj' : ¬ (j : Int) < 3 := by omega
          have m1 : (m : Int) % 18446744073709551616 = m := by omega
          have m2 : ¬ (m : Int) < 0 := by omega
          have m3 : m ≤ 64 := by omega
          have hp : 2 ^ m ≤ 2 ^ 63 := Nat.pow_le_pow_right (by decide) (by omega)
          have hp0 := Nat.two_pow_pos m
          have m4 : (1 : Int) * 2 ^ m % 18446744073709551616 = ((2 ^ m : Nat) : Int) := by
            rw [show (1 : Int) * 2 ^ m = ((2 ^ m : Nat) : Int) by push_cast; rw [Int.one_mul]]; omega
          have m5 : (((2 ^ m : Nat) : Int) - 1) % 18446744073709551616 = ((2 ^ m - 1 : Nat) : Int) := by omega
          simp -implicitDefEqProofs only [go_sem, ↓reduceIte, reduceCtorEq, reduceDIte, Nat.reduceAdd, Nat.reduceMul, Nat.reduceSub, Nat.reduceBEq, Nat.reduceBNe, Nat.reduceBeqDiff, Nat.reduceLT, Nat.reduceLeDiff, Nat.reduceEqDiff, Nat.reduceDiv, Nat.reduceMod, Nat.reducePow, Int.reduceLT, Int.reduceLE, Int.reduceGT, Int.reduceGE, Int.reduceEq, Int.reduceNe, Int.reduceToNat, Int.reduceNeg, Int.reducePow, Int.reduceAdd, Int.reduceMul, Int.reduceSub, Int.reduceBEq, Int.reduceMod, Int.reduceDiv, Int.reduceNatCast, Nat.min_def, hlj', hm, Unpack_spec (zs := P) (n := (m : Int)) (c := 3) hP8 (by omega), hun', resU, m1, m2, m3, m4, m5, band_mask ha.1 ha.2 m (by omega), band_mask hb.1 hb.2 m (by omega), band_mask hc.1 hc.2 m (by omega), SameWords_spec (a := [a % ((2 ^ m : Nat) : Int), b % ((2 ^ m : Nat) : Int), c % ((2 ^ m : Nat) : Int)]) (b := [a % ((2 ^ m : Nat) : Int), b % ((2 ^ m : Nat) : Int), c % ((2 ^ m : Nat) : Int)]) (by simp), awake1]
end Go.Proofs.Ytahhpnilblcfcaa.D
