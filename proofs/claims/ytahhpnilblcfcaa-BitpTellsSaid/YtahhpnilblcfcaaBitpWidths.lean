/- BitpWidths: what the law comes to. -/
import Derived.Test.YtahhpnilblcfcaaBitp3
namespace Go.Proofs.Ytahhpnilblcfcaa.D
open Go Go.Den
set_option linter.unusedSimpArgs false
set_option maxRecDepth 20000
set_option maxHeartbeats 4000000
theorem awake1 : dw E 22 [] [] = some (.bool true, []) := dw_of (k := 200) (by kernel_rfl)
theorem BitpWidths_spec {u : Nat} (hu : u < 18446744073709551616) : dw E 7 [.int .u64 u] [] = some (.bool true, []) := by
  refine dw_intro (fn := Try.f7) rfl rfl (by decide) ?_
  have hw64 : width u ≤ 64 := width_le (n := 64) hu
  have hat := atB_pack (m := width u) (l := [(u : Int)]) (i := 0) hw64 (by simp) (by decide)
  have hmod : ([(u : Int)].getD 0 0).toNat % 2 ^ width u = u := Nat.mod_eq_of_lt (width_lt u)
  rw [hmod] at hat
  have hat' : atB (width u) (packL (width u) [(u : Int)]) 0 = some u := hat
  have hlen : (packL (width u) [(u : Int)]).length ≤ 1000000000000 := by rw [packL_length]; simp; omega
  have h64 : R64 [(u : Int)] := fun z hz => by simp at hz; omega
  by_cases h0 : u = 0
  · subst h0
    have w0 : width 0 = 0 := rfl
    rw [w0] at hat' hlen
    have hz : heldN 0 = 0 := rfl
    have hf : Int.fdiv 0 1 = 0 := rfl
    have hat0 : atB 0 (packL 0 [0]) 0 = some 0 := hat'
    have hlen0 : (packL 0 [0]).length ≤ 1000000000000 := by rw [packL_length]; simp
    have wsp : dw E 23 [.int .u64 0] [] = some (.int .i64 0, []) := Width_spec (u := 0) (by decide)
    simp -implicitDefEqProofs only [go_sem, ↓reduceIte, reduceCtorEq, reduceDIte, Nat.reduceAdd, Nat.reduceMul, Nat.reduceSub, Nat.reduceBEq, Nat.reduceBNe, Nat.reduceBeqDiff, Nat.reduceLT, Nat.reduceLeDiff, Nat.reduceEqDiff, Nat.reduceDiv, Nat.reduceMod, Nat.reducePow, Int.reduceLT, Int.reduceLE, Int.reduceGT, Int.reduceGE, Int.reduceEq, Int.reduceNe, Int.reduceToNat, Int.reduceNeg, Int.reducePow, Int.reduceAdd, Int.reduceMul, Int.reduceSub, Int.reduceBEq, Int.reduceMod, Int.reduceDiv, Int.reduceNatCast, Nat.min_def, hf, wsp, Pack_spec (n := 0) (l := [0]) (by simp) (by intro z hz; simp at hz; omega), hz, hat0, At_spec (n := 0) (i := 0) (packL_R8 0 [0]) hlen0, resA, awake1]
  · obtain ⟨w, hw⟩ : ∃ w, width u = w := ⟨_, rfl⟩
    have hd0 : u / 2 ^ w = 0 := by rw [← hw]; exact width_div
    have hd1 : u / 2 ^ (w - 1) = 1 := by rw [← hw]; exact width_div1 h0
    have hwp : 0 < w := by rw [← hw]; exact width_pos h0
    rw [hw] at hw64 hat' hlen
    have a1 : ¬ (w : Int) < 0 := by omega
    have a2 : ¬ 64 < (w : Int) := by omega
    have a3 : (w : Int) % 18446744073709551616 = w := by omega
    have a4 : 0 < (w : Int) := by omega
    have a5 : ((w : Int) - 1 + 9223372036854775808) % 18446744073709551616 - 9223372036854775808 = ((w - 1 : Nat) : Int) := by omega
    have a6 : ((w - 1 : Nat) : Int) % 18446744073709551616 = ((w - 1 : Nat) : Int) := by omega
    have a7 : ¬ ((w - 1 : Nat) : Int) < 0 := by omega
    have a8 : w - 1 ≤ 64 := by omega
    have a9 : ((u : Int) = 0) = False := eq_false (by omega)
    by_cases h63 : 9223372036854775808 ≤ u
    · have hwe : w = 64 := by
        have h1 := width_lt u
        rw [hw] at h1
        refine Nat.le_antisymm hw64 (Nat.le_of_not_lt fun hlt => ?_)
        have : 2 ^ w ≤ 2 ^ 63 := Nat.pow_le_pow_right (by decide) (by omega)
        omega
      have b1 : ¬ (w : Int) < 64 := by omega
      have b2 : (9223372036854775808 : Int) ≤ u := by omega
      simp -implicitDefEqProofs only [go_sem, ↓reduceIte, reduceCtorEq, reduceDIte, Nat.reduceAdd, Nat.reduceMul, Nat.reduceSub, Nat.reduceBEq, Nat.reduceBNe, Nat.reduceBeqDiff, Nat.reduceLT, Nat.reduceLeDiff, Nat.reduceEqDiff, Nat.reduceDiv, Nat.reduceMod, Nat.reducePow, Int.reduceLT, Int.reduceLE, Int.reduceGT, Int.reduceGE, Int.reduceEq, Int.reduceNe, Int.reduceToNat, Int.reduceNeg, Int.reducePow, Int.reduceAdd, Int.reduceMul, Int.reduceSub, Int.reduceBEq, Int.reduceMod, Int.reduceDiv, Int.reduceNatCast, Nat.min_def, Width_spec hu, hw, a1, a2, a3, a4, a5, a6, a7, a8, a9, b1, b2, hw64, fdiv_pow, hd0, hd1, Pack_spec (n := (w : Int)) (l := [(u : Int)]) (by simp) h64, heldN_nat hw64, At_spec (n := (w : Int)) (i := 0) (packL_R8 w [(u : Int)]) hlen, hat', resA, awake1]
    · have b1 : (w : Int) < 64 := by
        have : width u ≤ 63 := width_le (n := 63) (by omega)
        omega
      have b2 : ¬ (9223372036854775808 : Int) ≤ u := by omega
      have b3 : 2 * (u : Int) % 18446744073709551616 = ((2 * u : Nat) : Int) := by omega
      have b4 : width (2 * u) = w + 1 := by
        rw [width_shift (u := 2 * u) 1 (by omega), show 2 * u / 2 ^ 1 = u by omega, hw]
      have b5 : ((w : Int) + 1 + 9223372036854775808) % 18446744073709551616 - 9223372036854775808 = ((w + 1 : Nat) : Int) := by omega
      simp -implicitDefEqProofs only [go_sem, ↓reduceIte, reduceCtorEq, reduceDIte, Nat.reduceAdd, Nat.reduceMul, Nat.reduceSub, Nat.reduceBEq, Nat.reduceBNe, Nat.reduceBeqDiff, Nat.reduceLT, Nat.reduceLeDiff, Nat.reduceEqDiff, Nat.reduceDiv, Nat.reduceMod, Nat.reducePow, Int.reduceLT, Int.reduceLE, Int.reduceGT, Int.reduceGE, Int.reduceEq, Int.reduceNe, Int.reduceToNat, Int.reduceNeg, Int.reducePow, Int.reduceAdd, Int.reduceMul, Int.reduceSub, Int.reduceBEq, Int.reduceMod, Int.reduceDiv, Int.reduceNatCast, Nat.min_def, Width_spec hu, hw, a1, a2, a3, a4, a5, a6, a7, a8, a9, b1, b2, b3, b4, b5, hw64, fdiv_pow, hd0, hd1, Pack_spec (n := (w : Int)) (l := [(u : Int)]) (by simp) h64, heldN_nat hw64, At_spec (n := (w : Int)) (i := 0) (packL_R8 w [(u : Int)]) hlen, hat', resA, awake1, Width_spec (u := 2 * u) (by omega)]
end Go.Proofs.Ytahhpnilblcfcaa.D
