/- BitpBack: what the law comes to. -/
import Derived.Test.YtahhpnilblcfcaaBitpWidths
namespace Go.Proofs.Ytahhpnilblcfcaa.D
open Go Go.Den
set_option linter.unusedSimpArgs false
set_option maxRecDepth 20000
set_option maxHeartbeats 4000000
theorem BitpBack_spec {l : List Int} {more : Bool} (h64 : R64 l) : dw E 10 [.sl 1 (ints .u64 l), .bool more] [] = some (.bool true, []) := by
  refine dw_intro (fn := Try.f10) rfl rfl (by decide) ?_
  by_cases hl : 60 < l.length
  · have hl' : 60 < (l.length : Int) := by omega
    simp -implicitDefEqProofs only [go_sem, ↓reduceIte, reduceCtorEq, reduceDIte, Nat.reduceAdd, Nat.reduceMul, Nat.reduceSub, Nat.reduceBEq, Nat.reduceBNe, Nat.reduceBeqDiff, Nat.reduceLT, Nat.reduceLeDiff, Nat.reduceEqDiff, Nat.reduceDiv, Nat.reduceMod, Nat.reducePow, Int.reduceLT, Int.reduceLE, Int.reduceGT, Int.reduceGE, Int.reduceEq, Int.reduceNe, Int.reduceToNat, Int.reduceNeg, Int.reducePow, Int.reduceAdd, Int.reduceMul, Int.reduceSub, Int.reduceBEq, Int.reduceMod, Int.reduceDiv, Int.reduceNatCast, Nat.min_def, hl', awake1]
  · have hl' : ¬ 60 < (l.length : Int) := by omega
    simp -implicitDefEqProofs only [go_sem, ↓reduceIte, reduceCtorEq, reduceDIte, Nat.reduceAdd, Nat.reduceMul, Nat.reduceSub, Nat.reduceBEq, Nat.reduceBNe, Nat.reduceBeqDiff, Nat.reduceLT, Nat.reduceLeDiff, Nat.reduceEqDiff, Nat.reduceDiv, Nat.reduceMod, Nat.reducePow, Int.reduceLT, Int.reduceLE, Int.reduceGT, Int.reduceGE, Int.reduceEq, Int.reduceNe, Int.reduceToNat, Int.reduceNeg, Int.reducePow, Int.reduceAdd, Int.reduceMul, Int.reduceSub, Int.reduceBEq, Int.reduceMod, Int.reduceDiv, Int.reduceNatCast, Nat.min_def, hl']
    refine runs_loop (fun i : Nat => (⟨[(0, .sl 1 (ints .u64 l)), (1, .bool more), (5, .int .i64 (maxW (l.take i))), (18, .sl 1 (ints .u64 l)), (19, .int .i64 l.length), (20, .int .i64 i)], [], 1⟩ : St)) (fun i => l.length - i) 0 ?_
      (fun i => i ≤ l.length) (by omega) ?_
    · simp -implicitDefEqProofs only [go_sem, ↓reduceIte, reduceCtorEq, reduceDIte, Nat.reduceAdd, Nat.reduceMul, Nat.reduceSub, Nat.reduceBEq, Nat.reduceBNe, Nat.reduceBeqDiff, Nat.reduceLT, Nat.reduceLeDiff, Nat.reduceEqDiff, Nat.reduceDiv, Nat.reduceMod, Nat.reducePow, Int.reduceLT, Int.reduceLE, Int.reduceGT, Int.reduceGE, Int.reduceEq, Int.reduceNe, Int.reduceToNat, Int.reduceNeg, Int.reducePow, Int.reduceAdd, Int.reduceMul, Int.reduceSub, Int.reduceBEq, Int.reduceMod, Int.reduceDiv, Int.reduceNatCast, Nat.min_def]
      rfl
    · intro i hi
      by_cases hlt : i < l.length
      · obtain ⟨x, hx⟩ : ∃ x, l[i]? = some x := ⟨_, List.getElem?_eq_getElem hlt⟩
        obtain ⟨hx0, hx1⟩ := h64 x (List.mem_of_getElem? hx)
        obtain ⟨u, rfl⟩ := Int.eq_ofNat_of_zero_le hx0
        have hlt' : (i : Int) < l.length := by omega
        have ei : 0 ≤ (i : Int) := by omega
        have en : ((i : Int) + 1 + 9223372036854775808) % 18446744073709551616 - 9223372036854775808 = ((i + 1 : Nat) : Int) := by omega
        have ht : maxW (l.take (i + 1)) = max (maxW (l.take i)) (width u) := by rw [List.take_add_one, hx]; exact maxW_snoc ..
        have hu := Width_spec (u := u) (by omega)
        by_cases hw : maxW (l.take i) < width u
        · have ew : ((maxW (l.take i) : Nat) : Int) < ((width u : Nat) : Int) := by omega
          simp -implicitDefEqProofs only [go_sem, ↓reduceIte, reduceCtorEq, reduceDIte, Nat.reduceAdd, Nat.reduceMul, Nat.reduceSub, Nat.reduceBEq, Nat.reduceBNe, Nat.reduceBeqDiff, Nat.reduceLT, Nat.reduceLeDiff, Nat.reduceEqDiff, Nat.reduceDiv, Nat.reduceMod, Nat.reducePow, Int.reduceLT, Int.reduceLE, Int.reduceGT, Int.reduceGE, Int.reduceEq, Int.reduceNe, Int.reduceToNat, Int.reduceNeg, Int.reducePow, Int.reduceAdd, Int.reduceMul, Int.reduceSub, Int.reduceBEq, Int.reduceMod, Int.reduceDiv, Int.reduceNatCast, Nat.min_def, hlt', ei, hx, en, hu, ew, GT.gt]
          exact ⟨i + 1, by omega, by omega, by rw [ht, Nat.max_eq_right (by omega)]⟩
        · have ew : ¬ ((maxW (l.take i) : Nat) : Int) < ((width u : Nat) : Int) := by omega
          simp -implicitDefEqProofs only [go_sem, ↓reduceIte, reduceCtorEq, reduceDIte, Nat.reduceAdd, Nat.reduceMul, Nat.reduceSub, Nat.reduceBEq, Nat.reduceBNe, Nat.reduceBeqDiff, Nat.reduceLT, Nat.reduceLeDiff, Nat.reduceEqDiff, Nat.reduceDiv, Nat.reduceMod, Nat.reducePow, Int.reduceLT, Int.reduceLE, Int.reduceGT, Int.reduceGE, Int.reduceEq, Int.reduceNe, Int.reduceToNat, Int.reduceNeg, Int.reducePow, Int.reduceAdd, Int.reduceMul, Int.reduceSub, Int.reduceBEq, Int.reduceMod, Int.reduceDiv, Int.reduceNatCast, Nat.min_def, hlt', ei, hx, en, hu, ew, GT.gt]
          exact ⟨i + 1, by omega, by omega, by rw [ht, Nat.max_eq_left (by omega)]⟩
      · have hlt' : ¬ (i : Int) < l.length := by omega
        have hte : l.take i = l := List.take_of_length_le (by omega)
        rw [hte]
        have hw64 := maxW_le h64
        cases more with
        | false =>
          obtain ⟨m, hm⟩ : ∃ m, m = maxW l := ⟨_, rfl⟩
          have hm1 : maxW l ≤ m := by omega
          have hm64 : m ≤ 64 := by omega
          rw [← hm]
          obtain ⟨P, hP⟩ : ∃ P, packL m l = P := ⟨_, rfl⟩
          have hP8 : R8 P := hP ▸ packL_R8 m l
          have hml : m * l.length ≤ 64 * 60 := Nat.mul_le_mul hm64 (by omega)
          have hPn : P.length = (m * l.length + 7) / 8 := by rw [← hP]; exact packL_length m l
          have hPl : P.length ≤ 1000000000000 := by omega
          have hun : unpack m P l.length = some l := by rw [← hP, unpack_packL h64 hm64 (by omega), mod_fits h64 hm1]
          have e1 : ((m : Int) * (l.length : Int) + 9223372036854775808) % 18446744073709551616 - 9223372036854775808 = ((m * l.length : Nat) : Int) := by
            rw [show (m : Int) * (l.length : Int) = ((m * l.length : Nat) : Int) by push_cast; rfl]; omega
          have e2 : (((m * l.length : Nat) : Int) + 7 + 9223372036854775808) % 18446744073709551616 - 9223372036854775808 = ((m * l.length + 7 : Nat) : Int) := by omega
          have e3 : (((m * l.length + 7) / 8 : Nat) + 9223372036854775808 : Int) % 18446744073709551616 - 9223372036854775808 = ((m * l.length + 7) / 8 : Nat) := by omega
          have e4 : ((P.length : Int) = (((m * l.length + 7) / 8 : Nat) : Int)) = True := eq_true (by omega)
          simp -implicitDefEqProofs only [go_sem, ↓reduceIte, reduceCtorEq, reduceDIte, Nat.reduceAdd, Nat.reduceMul, Nat.reduceSub, Nat.reduceBEq, Nat.reduceBNe, Nat.reduceBeqDiff, Nat.reduceLT, Nat.reduceLeDiff, Nat.reduceEqDiff, Nat.reduceDiv, Nat.reduceMod, Nat.reducePow, Int.reduceLT, Int.reduceLE, Int.reduceGT, Int.reduceGE, Int.reduceEq, Int.reduceNe, Int.reduceToNat, Int.reduceNeg, Int.reducePow, Int.reduceAdd, Int.reduceMul, Int.reduceSub, Int.reduceBEq, Int.reduceMod, Int.reduceDiv, Int.reduceNatCast, Nat.min_def, hlt', hm64, Pack_spec (n := (m : Int)) (l := l) (by omega) h64, heldN_nat hm64, hP, Unpack_spec (zs := P) (n := (m : Int)) (c := (l.length : Int)) hP8 hPl, hun, resU, SameWords_spec (a := l) (b := l) (by omega), e1, e2, tdiv8, e3, e4]
          refine runs_loop (fun i : Nat => (⟨[(0, .sl 1 (ints .u64 l)), (5, .int .i64 m), (8, .h 2097664), (64, .int .i64 l.length), (65, .int .i64 i)], [(2097664, some ⟨true, .row 5 1 (ints .u8 P)⟩)], 1⟩ : St)) (fun i => l.length - i) 0 ?_
            (fun i => i ≤ l.length) (by omega) ?_
          · simp -implicitDefEqProofs only [go_sem, ↓reduceIte, reduceCtorEq, reduceDIte, Nat.reduceAdd, Nat.reduceMul, Nat.reduceSub, Nat.reduceBEq, Nat.reduceBNe, Nat.reduceBeqDiff, Nat.reduceLT, Nat.reduceLeDiff, Nat.reduceEqDiff, Nat.reduceDiv, Nat.reduceMod, Nat.reducePow, Int.reduceLT, Int.reduceLE, Int.reduceGT, Int.reduceGE, Int.reduceEq, Int.reduceNe, Int.reduceToNat, Int.reduceNeg, Int.reducePow, Int.reduceAdd, Int.reduceMul, Int.reduceSub, Int.reduceBEq, Int.reduceMod, Int.reduceDiv, Int.reduceNatCast, Nat.min_def]
          · intro i hi
            by_cases hlt : i < l.length
            · obtain ⟨x, hx⟩ : ∃ x, l[i]? = some x := ⟨_, List.getElem?_eq_getElem hlt⟩
              have hlt' : (i : Int) < l.length := by omega
              have ei : 0 ≤ (i : Int) := by omega
              have en : ((i : Int) + 1 + 9223372036854775808) % 18446744073709551616 - 9223372036854775808 = ((i + 1 : Nat) : Int) := by omega
              obtain ⟨hx0, hx1⟩ := h64 x (List.mem_of_getElem? hx)
              have hat : atB m P i = some x.toNat := by
                rw [← hP, atB_pack hm64 hlt (by omega), List.getD_eq_getElem?_getD, hx, Option.getD_some]
                have h1 := maxW_ge (List.mem_of_getElem? hx)
                have h2 := width_lt x.toNat
                have h3 : 2 ^ width x.toNat ≤ 2 ^ m := Nat.pow_le_pow_right (by decide) (by omega)
                rw [Nat.mod_eq_of_lt (by omega)]
              have ex : ((x.toNat : Nat) : Int) = x := Int.toNat_of_nonneg hx0
              simp -implicitDefEqProofs only [go_sem, ↓reduceIte, reduceCtorEq, reduceDIte, Nat.reduceAdd, Nat.reduceMul, Nat.reduceSub, Nat.reduceBEq, Nat.reduceBNe, Nat.reduceBeqDiff, Nat.reduceLT, Nat.reduceLeDiff, Nat.reduceEqDiff, Nat.reduceDiv, Nat.reduceMod, Nat.reducePow, Int.reduceLT, Int.reduceLE, Int.reduceGT, Int.reduceGE, Int.reduceEq, Int.reduceNe, Int.reduceToNat, Int.reduceNeg, Int.reducePow, Int.reduceAdd, Int.reduceMul, Int.reduceSub, Int.reduceBEq, Int.reduceMod, Int.reduceDiv, Int.reduceNatCast, Nat.min_def, hlt', ei, hx, en, At_spec (zs := P) (n := (m : Int)) (i := (i : Int)) hP8 hPl, hat, resA, ex]
              exact ⟨i + 1, by omega, by omega, rfl⟩
            · have hlt' : ¬ (i : Int) < l.length := by omega
              simp -implicitDefEqProofs only [go_sem, ↓reduceIte, reduceCtorEq, reduceDIte, Nat.reduceAdd, Nat.reduceMul, Nat.reduceSub, Nat.reduceBEq, Nat.reduceBNe, Nat.reduceBeqDiff, Nat.reduceLT, Nat.reduceLeDiff, Nat.reduceEqDiff, Nat.reduceDiv, Nat.reduceMod, Nat.reducePow, Int.reduceLT, Int.reduceLE, Int.reduceGT, Int.reduceGE, Int.reduceEq, Int.reduceNe, Int.reduceToNat, Int.reduceNeg, Int.reducePow, Int.reduceAdd, Int.reduceMul, Int.reduceSub, Int.reduceBEq, Int.reduceMod, Int.reduceDiv, Int.reduceNatCast, Nat.min_def, hlt', awake1]
        | true =>
          obtain ⟨m, hm⟩ : ∃ m, m = min (maxW l + 1) 64 := ⟨_, rfl⟩
          have hm1 : maxW l ≤ m := by omega
          have hm64 : m ≤ 64 := by omega
          have w1 : ((maxW l : Int) + 1 + 9223372036854775808) % 18446744073709551616 - 9223372036854775808 = ((maxW l + 1 : Nat) : Int) := by omega
          have w2 : (if (64 : Int) < ((maxW l + 1 : Nat) : Int) then 64 else ((maxW l + 1 : Nat) : Int)) = (m : Int) := by split <;> omega
          obtain ⟨P, hP⟩ : ∃ P, packL m l = P := ⟨_, rfl⟩
          have hP8 : R8 P := hP ▸ packL_R8 m l
          have hml : m * l.length ≤ 64 * 60 := Nat.mul_le_mul hm64 (by omega)
          have hPn : P.length = (m * l.length + 7) / 8 := by rw [← hP]; exact packL_length m l
          have hPl : P.length ≤ 1000000000000 := by omega
          have hun : unpack m P l.length = some l := by rw [← hP, unpack_packL h64 hm64 (by omega), mod_fits h64 hm1]
          have e1 : ((m : Int) * (l.length : Int) + 9223372036854775808) % 18446744073709551616 - 9223372036854775808 = ((m * l.length : Nat) : Int) := by
            rw [show (m : Int) * (l.length : Int) = ((m * l.length : Nat) : Int) by push_cast; rfl]; omega
          have e2 : (((m * l.length : Nat) : Int) + 7 + 9223372036854775808) % 18446744073709551616 - 9223372036854775808 = ((m * l.length + 7 : Nat) : Int) := by omega
          have e3 : (((m * l.length + 7) / 8 : Nat) + 9223372036854775808 : Int) % 18446744073709551616 - 9223372036854775808 = ((m * l.length + 7) / 8 : Nat) := by omega
          have e4 : ((P.length : Int) = (((m * l.length + 7) / 8 : Nat) : Int)) = True := eq_true (by omega)
          simp -implicitDefEqProofs only [go_sem, ↓reduceIte, reduceCtorEq, reduceDIte, Nat.reduceAdd, Nat.reduceMul, Nat.reduceSub, Nat.reduceBEq, Nat.reduceBNe, Nat.reduceBeqDiff, Nat.reduceLT, Nat.reduceLeDiff, Nat.reduceEqDiff, Nat.reduceDiv, Nat.reduceMod, Nat.reducePow, Int.reduceLT, Int.reduceLE, Int.reduceGT, Int.reduceGE, Int.reduceEq, Int.reduceNe, Int.reduceToNat, Int.reduceNeg, Int.reducePow, Int.reduceAdd, Int.reduceMul, Int.reduceSub, Int.reduceBEq, Int.reduceMod, Int.reduceDiv, Int.reduceNatCast, Nat.min_def, hlt', w1, w2, Pack_spec (n := (m : Int)) (l := l) (by omega) h64, heldN_nat hm64, hP, Unpack_spec (zs := P) (n := (m : Int)) (c := (l.length : Int)) hP8 hPl, hun, resU, SameWords_spec (a := l) (b := l) (by omega), e1, e2, tdiv8, e3, e4]
          refine runs_loop (fun i : Nat => (⟨[(0, .sl 1 (ints .u64 l)), (5, .int .i64 m), (8, .h 2097664), (64, .int .i64 l.length), (65, .int .i64 i)], [(2097664, some ⟨true, .row 5 1 (ints .u8 P)⟩)], 1⟩ : St)) (fun i => l.length - i) 0 ?_
            (fun i => i ≤ l.length) (by omega) ?_
          · simp -implicitDefEqProofs only [go_sem, ↓reduceIte, reduceCtorEq, reduceDIte, Nat.reduceAdd, Nat.reduceMul, Nat.reduceSub, Nat.reduceBEq, Nat.reduceBNe, Nat.reduceBeqDiff, Nat.reduceLT, Nat.reduceLeDiff, Nat.reduceEqDiff, Nat.reduceDiv, Nat.reduceMod, Nat.reducePow, Int.reduceLT, Int.reduceLE, Int.reduceGT, Int.reduceGE, Int.reduceEq, Int.reduceNe, Int.reduceToNat, Int.reduceNeg, Int.reducePow, Int.reduceAdd, Int.reduceMul, Int.reduceSub, Int.reduceBEq, Int.reduceMod, Int.reduceDiv, Int.reduceNatCast, Nat.min_def]
          · intro i hi
            by_cases hlt : i < l.length
            · obtain ⟨x, hx⟩ : ∃ x, l[i]? = some x := ⟨_, List.getElem?_eq_getElem hlt⟩
              have hlt' : (i : Int) < l.length := by omega
              have ei : 0 ≤ (i : Int) := by omega
              have en : ((i : Int) + 1 + 9223372036854775808) % 18446744073709551616 - 9223372036854775808 = ((i + 1 : Nat) : Int) := by omega
              obtain ⟨hx0, hx1⟩ := h64 x (List.mem_of_getElem? hx)
              have hat : atB m P i = some x.toNat := by
                rw [← hP, atB_pack hm64 hlt (by omega), List.getD_eq_getElem?_getD, hx, Option.getD_some]
                have h1 := maxW_ge (List.mem_of_getElem? hx)
                have h2 := width_lt x.toNat
                have h3 : 2 ^ width x.toNat ≤ 2 ^ m := Nat.pow_le_pow_right (by decide) (by omega)
                rw [Nat.mod_eq_of_lt (by omega)]
              have ex : ((x.toNat : Nat) : Int) = x := Int.toNat_of_nonneg hx0
              simp -implicitDefEqProofs only [go_sem, ↓reduceIte, reduceCtorEq, reduceDIte, Nat.reduceAdd, Nat.reduceMul, Nat.reduceSub, Nat.reduceBEq, Nat.reduceBNe, Nat.reduceBeqDiff, Nat.reduceLT, Nat.reduceLeDiff, Nat.reduceEqDiff, Nat.reduceDiv, Nat.reduceMod, Nat.reducePow, Int.reduceLT, Int.reduceLE, Int.reduceGT, Int.reduceGE, Int.reduceEq, Int.reduceNe, Int.reduceToNat, Int.reduceNeg, Int.reducePow, Int.reduceAdd, Int.reduceMul, Int.reduceSub, Int.reduceBEq, Int.reduceMod, Int.reduceDiv, Int.reduceNatCast, Nat.min_def, hlt', ei, hx, en, At_spec (zs := P) (n := (m : Int)) (i := (i : Int)) hP8 hPl, hat, resA, ex]
              exact ⟨i + 1, by omega, by omega, rfl⟩
            · have hlt' : ¬ (i : Int) < l.length := by omega
              simp -implicitDefEqProofs only [go_sem, ↓reduceIte, reduceCtorEq, reduceDIte, Nat.reduceAdd, Nat.reduceMul, Nat.reduceSub, Nat.reduceBEq, Nat.reduceBNe, Nat.reduceBeqDiff, Nat.reduceLT, Nat.reduceLeDiff, Nat.reduceEqDiff, Nat.reduceDiv, Nat.reduceMod, Nat.reducePow, Int.reduceLT, Int.reduceLE, Int.reduceGT, Int.reduceGE, Int.reduceEq, Int.reduceNe, Int.reduceToNat, Int.reduceNeg, Int.reducePow, Int.reduceAdd, Int.reduceMul, Int.reduceSub, Int.reduceBEq, Int.reduceMod, Int.reduceDiv, Int.reduceNatCast, Nat.min_def, hlt', awake1]
end Go.Proofs.Ytahhpnilblcfcaa.D
