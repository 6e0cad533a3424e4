/- NullBack: what the law comes to. -/
import Derived.Test.YtepofpmohiegpaaNull2
namespace Go.Proofs.Ytepofpmohiegpaa.D
open Go Go.Den
set_option linter.unusedSimpArgs false
set_option maxRecDepth 20000
set_option maxHeartbeats 4000000
theorem awake3 : dw E 20 [] [] = some (.bool true, []) := dw_of (k := 200) (by kernel_rfl)
theorem NullBack_spec {l more : List Int} {how : Int} (hm8 : R8 more) : dw E 7 [.sl 1 (ints .i64 l), .int .i64 how, .sl 1 (ints .u8 more)] [] = some (.bool true, []) := by
  refine dw_intro (fn := Try.f7) rfl rfl (by decide) ?_
  by_cases h1 : 100 < more.length
  · have h1' : 100 < (more.length : Int) := by omega
    simp -implicitDefEqProofs only [go_sem, ↓reduceIte, reduceCtorEq, reduceDIte, Nat.reduceAdd, Nat.reduceMul, Nat.reduceSub, Nat.reduceBEq, Nat.reduceBNe, Nat.reduceBeqDiff, Nat.reduceLT, Nat.reduceLeDiff, Nat.reduceEqDiff, Nat.reduceDiv, Nat.reduceMod, Nat.reducePow, Int.reduceLT, Int.reduceLE, Int.reduceGT, Int.reduceGE, Int.reduceEq, Int.reduceNe, Int.reduceToNat, Int.reduceNeg, Int.reducePow, Int.reduceAdd, Int.reduceMul, Int.reduceSub, Int.reduceBEq, Int.reduceMod, Int.reduceDiv, Int.reduceNatCast, Nat.min_def, h1', awake3]
  · have h1' : ¬ 100 < (more.length : Int) := by omega
    obtain ⟨x, hx⟩ : ∃ x, boolsN l how = x := ⟨_, rfl⟩
    have hxl : x.length ≤ 60 := by rw [← hx]; simp [boolsN]; omega
    have hEl := encN_len x (by omega)
    have hE8 := encN_R8 x (by omega)
    have hD := Decode_spec (zs := encN x ++ more) (hE8.append hm8) (by rw [List.length_append]; omega)
    rw [dec_enc x more (by omega)] at hD
    have l1 : (encN x).length * 2 ≤ 70368744177664 := by omega
    have l2 : ((encN x).length + more.length) * 2 ≤ 70368744177664 := by omega
    simp -implicitDefEqProofs only [go_sem, ↓reduceIte, reduceCtorEq, reduceDIte, Nat.reduceAdd, Nat.reduceMul, Nat.reduceSub, Nat.reduceBEq, Nat.reduceBNe, Nat.reduceBeqDiff, Nat.reduceLT, Nat.reduceLeDiff, Nat.reduceEqDiff, Nat.reduceDiv, Nat.reduceMod, Nat.reducePow, Int.reduceLT, Int.reduceLE, Int.reduceGT, Int.reduceGE, Int.reduceEq, Int.reduceNe, Int.reduceToNat, Int.reduceNeg, Int.reducePow, Int.reduceAdd, Int.reduceMul, Int.reduceSub, Int.reduceBEq, Int.reduceMod, Int.reduceDiv, Int.reduceNatCast, Nat.min_def, h1', Bools_spec, hx, Encode_spec (l := x) (by omega), Nat.zero_add, l1, l2, hD, resD]
    refine runs_loop (fun i : Nat => (⟨[(7, .h 2097600), (8, .h 2097664), (11, .int .i64 (countL (x.take i))), (48, .int .i64 x.length), (49, .int .i64 i)], [(2097600, some ⟨true, .row 4 1 (bools x)⟩), (2097664, some ⟨true, .row 4 1 (bools x)⟩)], 1⟩ : St)) (fun i => x.length - i) 0 ?_
      (fun i => i ≤ x.length) (by omega) ?_
    · simp -implicitDefEqProofs only [go_sem, ↓reduceIte, reduceCtorEq, reduceDIte, Nat.reduceAdd, Nat.reduceMul, Nat.reduceSub, Nat.reduceBEq, Nat.reduceBNe, Nat.reduceBeqDiff, Nat.reduceLT, Nat.reduceLeDiff, Nat.reduceEqDiff, Nat.reduceDiv, Nat.reduceMod, Nat.reducePow, Int.reduceLT, Int.reduceLE, Int.reduceGT, Int.reduceGE, Int.reduceEq, Int.reduceNe, Int.reduceToNat, Int.reduceNeg, Int.reducePow, Int.reduceAdd, Int.reduceMul, Int.reduceSub, Int.reduceBEq, Int.reduceMod, Int.reduceDiv, Int.reduceNatCast, Nat.min_def]
      rfl
    · intro i hi
      by_cases hlt : i < x.length
      · obtain ⟨b, hb⟩ : ∃ b, x[i]? = some b := ⟨_, List.getElem?_eq_getElem hlt⟩
        have hlt' : (i : Int) < x.length := by omega
        have ei : 0 ≤ (i : Int) := by omega
        have en : ((i : Int) + 1 + 9223372036854775808) % 18446744073709551616 - 9223372036854775808 = ((i + 1 : Nat) : Int) := by omega
        have ht : x.take (i + 1) = x.take i ++ [b] := by rw [List.take_add_one, hb]; rfl
        have hc := countL_le (x.take i)
        rw [List.length_take] at hc
        have ec : ((countL (x.take i) : Int) + 1 + 9223372036854775808) % 18446744073709551616 - 9223372036854775808 = ((countL (x.take i) + 1 : Nat) : Int) := by omega
        cases b with
        | true =>
          simp -implicitDefEqProofs only [go_sem, ↓reduceIte, reduceCtorEq, reduceDIte, Nat.reduceAdd, Nat.reduceMul, Nat.reduceSub, Nat.reduceBEq, Nat.reduceBNe, Nat.reduceBeqDiff, Nat.reduceLT, Nat.reduceLeDiff, Nat.reduceEqDiff, Nat.reduceDiv, Nat.reduceMod, Nat.reducePow, Int.reduceLT, Int.reduceLE, Int.reduceGT, Int.reduceGE, Int.reduceEq, Int.reduceNe, Int.reduceToNat, Int.reduceNeg, Int.reducePow, Int.reduceAdd, Int.reduceMul, Int.reduceSub, Int.reduceBEq, Int.reduceMod, Int.reduceDiv, Int.reduceNatCast, Nat.min_def, hlt', hlt, ei, hb, en, ec]
          exact ⟨by change _ = true; kernel_rfl, i + 1, by omega, by omega, by rw [ht, count_snoc]; rfl⟩
        | false =>
          simp -implicitDefEqProofs only [go_sem, ↓reduceIte, reduceCtorEq, reduceDIte, Nat.reduceAdd, Nat.reduceMul, Nat.reduceSub, Nat.reduceBEq, Nat.reduceBNe, Nat.reduceBeqDiff, Nat.reduceLT, Nat.reduceLeDiff, Nat.reduceEqDiff, Nat.reduceDiv, Nat.reduceMod, Nat.reducePow, Int.reduceLT, Int.reduceLE, Int.reduceGT, Int.reduceGE, Int.reduceEq, Int.reduceNe, Int.reduceToNat, Int.reduceNeg, Int.reducePow, Int.reduceAdd, Int.reduceMul, Int.reduceSub, Int.reduceBEq, Int.reduceMod, Int.reduceDiv, Int.reduceNatCast, Nat.min_def, hlt', hlt, ei, hb, en]
          exact ⟨by change _ = true; kernel_rfl, i + 1, by omega, by omega, by rw [ht, count_snoc]; rfl⟩
      · have hlt' : ¬ (i : Int) < x.length := by omega
        have hte : x.take i = x := List.take_of_length_le (by omega)
        rw [hte]
        simp -implicitDefEqProofs only [go_sem, ↓reduceIte, reduceCtorEq, reduceDIte, Nat.reduceAdd, Nat.reduceMul, Nat.reduceSub, Nat.reduceBEq, Nat.reduceBNe, Nat.reduceBeqDiff, Nat.reduceLT, Nat.reduceLeDiff, Nat.reduceEqDiff, Nat.reduceDiv, Nat.reduceMod, Nat.reducePow, Int.reduceLT, Int.reduceLE, Int.reduceGT, Int.reduceGE, Int.reduceEq, Int.reduceNe, Int.reduceToNat, Int.reduceNeg, Int.reducePow, Int.reduceAdd, Int.reduceMul, Int.reduceSub, Int.reduceBEq, Int.reduceMod, Int.reduceDiv, Int.reduceNatCast, Nat.min_def, hlt', Count_spec (l := x) (by omega), awake3]
end Go.Proofs.Ytepofpmohiegpaa.D
