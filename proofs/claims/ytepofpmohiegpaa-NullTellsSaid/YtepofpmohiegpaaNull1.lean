/- Bools in bytes: what the functions come to. -/
import Derived.Test.YtepofpmohiegpaaCode3
import Derived.Test.YtepofpmohiegpaaBitp2
namespace Go.Proofs.Ytepofpmohiegpaa.D
open Go Go.Den
set_option linter.unusedSimpArgs false
set_option maxRecDepth 20000
set_option maxHeartbeats 4000000
theorem count_snoc (l : List Bool) (b : Bool) : countL (l ++ [b]) = countL l + (if b then 1 else 0) := by
  unfold countL; rw [List.count_append]; cases b <;> simp
theorem Count_spec {l : List Bool} (hl : l.length ≤ 1000000000) : dw E 19 [.sl 1 (bools l)] [] = some (.int .i64 (countL l), []) := by
  refine dw_intro (fn := Try.f19) rfl rfl (by decide) ?_
  simp -implicitDefEqProofs only [go_sem, ↓reduceIte, reduceCtorEq, reduceDIte, Nat.reduceAdd, Nat.reduceMul, Nat.reduceSub, Nat.reduceBEq, Nat.reduceBNe, Nat.reduceBeqDiff, Nat.reduceLT, Nat.reduceLeDiff, Nat.reduceEqDiff, Nat.reduceDiv, Nat.reduceMod, Nat.reducePow, Int.reduceLT, Int.reduceLE, Int.reduceGT, Int.reduceGE, Int.reduceEq, Int.reduceNe, Int.reduceToNat, Int.reduceNeg, Int.reducePow, Int.reduceAdd, Int.reduceMul, Int.reduceSub, Int.reduceBEq, Int.reduceMod, Int.reduceDiv, Int.reduceNatCast, Nat.min_def]
  refine runs_loop (fun i : Nat => (⟨[(3, .int .i64 (countL (l.take i))), (6, .sl 1 (bools l)), (7, .int .i64 l.length), (8, .int .i64 i)], [], 1⟩ : St)) (fun i => l.length - i) 0 ?_
    (fun i => i ≤ l.length) (by omega) ?_
  · simp -implicitDefEqProofs only [go_sem, ↓reduceIte, reduceCtorEq, reduceDIte, Nat.reduceAdd, Nat.reduceMul, Nat.reduceSub, Nat.reduceBEq, Nat.reduceBNe, Nat.reduceBeqDiff, Nat.reduceLT, Nat.reduceLeDiff, Nat.reduceEqDiff, Nat.reduceDiv, Nat.reduceMod, Nat.reducePow, Int.reduceLT, Int.reduceLE, Int.reduceGT, Int.reduceGE, Int.reduceEq, Int.reduceNe, Int.reduceToNat, Int.reduceNeg, Int.reducePow, Int.reduceAdd, Int.reduceMul, Int.reduceSub, Int.reduceBEq, Int.reduceMod, Int.reduceDiv, Int.reduceNatCast, Nat.min_def]
    rfl
  · intro i hi
    by_cases hlt : i < l.length
    · obtain ⟨b, hb⟩ : ∃ b, l[i]? = some b := ⟨_, List.getElem?_eq_getElem hlt⟩
      have hlt' : (i : Int) < l.length := by omega
      have ei : 0 ≤ (i : Int) := by omega
      have en : ((i : Int) + 1 + 9223372036854775808) % 18446744073709551616 - 9223372036854775808 = ((i + 1 : Nat) : Int) := by omega
      have ht : l.take (i + 1) = l.take i ++ [b] := by rw [List.take_add_one, hb]; rfl
      have hc := countL_le (l.take i)
      rw [List.length_take] at hc
      have ec : ((countL (l.take i) : Int) + 1 + 9223372036854775808) % 18446744073709551616 - 9223372036854775808 = ((countL (l.take i) + 1 : Nat) : Int) := by omega
      cases b with
      | true =>
        simp -implicitDefEqProofs only [go_sem, ↓reduceIte, reduceCtorEq, reduceDIte, Nat.reduceAdd, Nat.reduceMul, Nat.reduceSub, Nat.reduceBEq, Nat.reduceBNe, Nat.reduceBeqDiff, Nat.reduceLT, Nat.reduceLeDiff, Nat.reduceEqDiff, Nat.reduceDiv, Nat.reduceMod, Nat.reducePow, Int.reduceLT, Int.reduceLE, Int.reduceGT, Int.reduceGE, Int.reduceEq, Int.reduceNe, Int.reduceToNat, Int.reduceNeg, Int.reducePow, Int.reduceAdd, Int.reduceMul, Int.reduceSub, Int.reduceBEq, Int.reduceMod, Int.reduceDiv, Int.reduceNatCast, Nat.min_def, hlt', ei, hb, en, ec]
        exact ⟨i + 1, by omega, by omega, by rw [ht, count_snoc]; rfl⟩
      | false =>
        simp -implicitDefEqProofs only [go_sem, ↓reduceIte, reduceCtorEq, reduceDIte, Nat.reduceAdd, Nat.reduceMul, Nat.reduceSub, Nat.reduceBEq, Nat.reduceBNe, Nat.reduceBeqDiff, Nat.reduceLT, Nat.reduceLeDiff, Nat.reduceEqDiff, Nat.reduceDiv, Nat.reduceMod, Nat.reducePow, Int.reduceLT, Int.reduceLE, Int.reduceGT, Int.reduceGE, Int.reduceEq, Int.reduceNe, Int.reduceToNat, Int.reduceNeg, Int.reducePow, Int.reduceAdd, Int.reduceMul, Int.reduceSub, Int.reduceBEq, Int.reduceMod, Int.reduceDiv, Int.reduceNatCast, Nat.min_def, hlt', ei, hb, en]
        exact ⟨i + 1, by omega, by omega, by rw [ht, count_snoc]; rfl⟩
    · have hlt' : ¬ (i : Int) < l.length := by omega
      have hte : l.take i = l := List.take_of_length_le (by omega)
      rw [hte]
      simp -implicitDefEqProofs only [go_sem, ↓reduceIte, reduceCtorEq, reduceDIte, Nat.reduceAdd, Nat.reduceMul, Nat.reduceSub, Nat.reduceBEq, Nat.reduceBNe, Nat.reduceBeqDiff, Nat.reduceLT, Nat.reduceLeDiff, Nat.reduceEqDiff, Nat.reduceDiv, Nat.reduceMod, Nat.reducePow, Int.reduceLT, Int.reduceLE, Int.reduceGT, Int.reduceGE, Int.reduceEq, Int.reduceNe, Int.reduceToNat, Int.reduceNeg, Int.reducePow, Int.reduceAdd, Int.reduceMul, Int.reduceSub, Int.reduceBEq, Int.reduceMod, Int.reduceDiv, Int.reduceNatCast, Nat.min_def, hlt']
theorem bit_spec {b : Bool} : dw E 46 [.bool b] [] = some (.int .u64 (bitI b), []) := by
  refine dw_intro (fn := Try.f46) rfl rfl (by decide) ?_
  cases b
  · simp -implicitDefEqProofs only [go_sem, ↓reduceIte, reduceCtorEq, reduceDIte, Nat.reduceAdd, Nat.reduceMul, Nat.reduceSub, Nat.reduceBEq, Nat.reduceBNe, Nat.reduceBeqDiff, Nat.reduceLT, Nat.reduceLeDiff, Nat.reduceEqDiff, Nat.reduceDiv, Nat.reduceMod, Nat.reducePow, Int.reduceLT, Int.reduceLE, Int.reduceGT, Int.reduceGE, Int.reduceEq, Int.reduceNe, Int.reduceToNat, Int.reduceNeg, Int.reducePow, Int.reduceAdd, Int.reduceMul, Int.reduceSub, Int.reduceBEq, Int.reduceMod, Int.reduceDiv, Int.reduceNatCast, Nat.min_def, bitI]
  · simp -implicitDefEqProofs only [go_sem, ↓reduceIte, reduceCtorEq, reduceDIte, Nat.reduceAdd, Nat.reduceMul, Nat.reduceSub, Nat.reduceBEq, Nat.reduceBNe, Nat.reduceBeqDiff, Nat.reduceLT, Nat.reduceLeDiff, Nat.reduceEqDiff, Nat.reduceDiv, Nat.reduceMod, Nat.reducePow, Int.reduceLT, Int.reduceLE, Int.reduceGT, Int.reduceGE, Int.reduceEq, Int.reduceNe, Int.reduceToNat, Int.reduceNeg, Int.reducePow, Int.reduceAdd, Int.reduceMul, Int.reduceSub, Int.reduceBEq, Int.reduceMod, Int.reduceDiv, Int.reduceNatCast, Nat.min_def, bitI]
theorem Bools_spec {l : List Int} {how : Int} : dw E 21 [.sl 1 (ints .i64 l), .int .i64 how] [] = some (.nr 4 1 (bools (boolsN l how)), []) := by
  refine dw_intro (fn := Try.f21) rfl rfl (by decide) ?_
  simp -implicitDefEqProofs only [go_sem, ↓reduceIte, reduceCtorEq, reduceDIte, Nat.reduceAdd, Nat.reduceMul, Nat.reduceSub, Nat.reduceBEq, Nat.reduceBNe, Nat.reduceBeqDiff, Nat.reduceLT, Nat.reduceLeDiff, Nat.reduceEqDiff, Nat.reduceDiv, Nat.reduceMod, Nat.reducePow, Int.reduceLT, Int.reduceLE, Int.reduceGT, Int.reduceGE, Int.reduceEq, Int.reduceNe, Int.reduceToNat, Int.reduceNeg, Int.reducePow, Int.reduceAdd, Int.reduceMul, Int.reduceSub, Int.reduceBEq, Int.reduceMod, Int.reduceDiv, Int.reduceNatCast, Nat.min_def]
  refine runs_loop (fun i : Nat => (⟨[(0, .sl 1 (ints .i64 l)), (1, .int .i64 how), (5, .h 2097472), (6, .int .i64 i)], [(2097472, some ⟨true, .row 4 1 (bools ((boolsN l how).take i))⟩)], 1⟩ : St)) (fun i => 60 - i) 0 ?_
    (fun i => i ≤ l.length ∧ i ≤ 60) ⟨by omega, by omega⟩ ?_
  · simp -implicitDefEqProofs only [go_sem, ↓reduceIte, reduceCtorEq, reduceDIte, Nat.reduceAdd, Nat.reduceMul, Nat.reduceSub, Nat.reduceBEq, Nat.reduceBNe, Nat.reduceBeqDiff, Nat.reduceLT, Nat.reduceLeDiff, Nat.reduceEqDiff, Nat.reduceDiv, Nat.reduceMod, Nat.reducePow, Int.reduceLT, Int.reduceLE, Int.reduceGT, Int.reduceGE, Int.reduceEq, Int.reduceNe, Int.reduceToNat, Int.reduceNeg, Int.reducePow, Int.reduceAdd, Int.reduceMul, Int.reduceSub, Int.reduceBEq, Int.reduceMod, Int.reduceDiv, Int.reduceNatCast, Nat.min_def]
    rfl
  · rintro i ⟨hi, hi6⟩
    have ei : 0 ≤ (i : Int) := by omega
    have en : ((i : Int) + 1 + 9223372036854775808) % 18446744073709551616 - 9223372036854775808 = ((i + 1 : Nat) : Int) := by omega
    by_cases hlt : i < l.length
    · have hlt' : (i : Int) < l.length := by omega
      by_cases h60 : i < 60
      · have h60' : (i : Int) < 60 := by omega
        obtain ⟨z, hz⟩ : ∃ z, l[i]? = some z := ⟨_, List.getElem?_eq_getElem hlt⟩
        have hg : (boolsN l how)[i]? = some (decide (how % 4 = 1) || (decide (1 < how % 4) && decide (z % 2 = 1))) := by
          simp only [boolsN, List.getElem?_map, List.getElem?_take, h60, if_true, hz, Option.map_some]
        have ht : (boolsN l how).take (i + 1) = (boolsN l how).take i ++ [decide (how % 4 = 1) || (decide (1 < how % 4) && decide (z % 2 = 1))] := by rw [List.take_add_one, hg]; rfl
        have hlim : (((boolsN l how).take i).length + 1) * 2 ≤ 70368744177664 := by rw [List.length_take]; omega
        by_cases q1 : how % 4 = 1
        · have p1 := eq_true q1
          simp -implicitDefEqProofs only [go_sem, ↓reduceIte, reduceCtorEq, reduceDIte, Nat.reduceAdd, Nat.reduceMul, Nat.reduceSub, Nat.reduceBEq, Nat.reduceBNe, Nat.reduceBeqDiff, Nat.reduceLT, Nat.reduceLeDiff, Nat.reduceEqDiff, Nat.reduceDiv, Nat.reduceMod, Nat.reducePow, Int.reduceLT, Int.reduceLE, Int.reduceGT, Int.reduceGE, Int.reduceEq, Int.reduceNe, Int.reduceToNat, Int.reduceNeg, Int.reducePow, Int.reduceAdd, Int.reduceMul, Int.reduceSub, Int.reduceBEq, Int.reduceMod, Int.reduceDiv, Int.reduceNatCast, Nat.min_def, hlt', h60', ei, en, hz, hlim, p1]
          exact ⟨i + 1, ⟨by omega, by omega⟩, by omega, by rw [ht]; simp [q1]⟩
        · by_cases q2 : 1 < how % 4
          · simp -implicitDefEqProofs only [go_sem, ↓reduceIte, reduceCtorEq, reduceDIte, Nat.reduceAdd, Nat.reduceMul, Nat.reduceSub, Nat.reduceBEq, Nat.reduceBNe, Nat.reduceBeqDiff, Nat.reduceLT, Nat.reduceLeDiff, Nat.reduceEqDiff, Nat.reduceDiv, Nat.reduceMod, Nat.reducePow, Int.reduceLT, Int.reduceLE, Int.reduceGT, Int.reduceGE, Int.reduceEq, Int.reduceNe, Int.reduceToNat, Int.reduceNeg, Int.reducePow, Int.reduceAdd, Int.reduceMul, Int.reduceSub, Int.reduceBEq, Int.reduceMod, Int.reduceDiv, Int.reduceNatCast, Nat.min_def, hlt', h60', ei, en, hz, hlim, q1, q2]
            exact ⟨i + 1, ⟨by omega, by omega⟩, by omega, by rw [ht]; simp [q1, q2]⟩
          · simp -implicitDefEqProofs only [go_sem, ↓reduceIte, reduceCtorEq, reduceDIte, Nat.reduceAdd, Nat.reduceMul, Nat.reduceSub, Nat.reduceBEq, Nat.reduceBNe, Nat.reduceBeqDiff, Nat.reduceLT, Nat.reduceLeDiff, Nat.reduceEqDiff, Nat.reduceDiv, Nat.reduceMod, Nat.reducePow, Int.reduceLT, Int.reduceLE, Int.reduceGT, Int.reduceGE, Int.reduceEq, Int.reduceNe, Int.reduceToNat, Int.reduceNeg, Int.reducePow, Int.reduceAdd, Int.reduceMul, Int.reduceSub, Int.reduceBEq, Int.reduceMod, Int.reduceDiv, Int.reduceNatCast, Nat.min_def, hlt', h60', ei, en, hz, hlim, q1, q2]
            exact ⟨i + 1, ⟨by omega, by omega⟩, by omega, by rw [ht]; simp [q1, q2]⟩
      · have h60' : ¬ (i : Int) < 60 := by omega
        have hte : (boolsN l how).take i = boolsN l how := List.take_of_length_le (by simp [boolsN]; omega)
        rw [hte]
        simp -implicitDefEqProofs only [go_sem, ↓reduceIte, reduceCtorEq, reduceDIte, Nat.reduceAdd, Nat.reduceMul, Nat.reduceSub, Nat.reduceBEq, Nat.reduceBNe, Nat.reduceBeqDiff, Nat.reduceLT, Nat.reduceLeDiff, Nat.reduceEqDiff, Nat.reduceDiv, Nat.reduceMod, Nat.reducePow, Int.reduceLT, Int.reduceLE, Int.reduceGT, Int.reduceGE, Int.reduceEq, Int.reduceNe, Int.reduceToNat, Int.reduceNeg, Int.reducePow, Int.reduceAdd, Int.reduceMul, Int.reduceSub, Int.reduceBEq, Int.reduceMod, Int.reduceDiv, Int.reduceNatCast, Nat.min_def, hlt', h60']
    · have hlt' : ¬ (i : Int) < l.length := by omega
      have hte : (boolsN l how).take i = boolsN l how := List.take_of_length_le (by simp [boolsN]; omega)
      rw [hte]
      simp -implicitDefEqProofs only [go_sem, ↓reduceIte, reduceCtorEq, reduceDIte, Nat.reduceAdd, Nat.reduceMul, Nat.reduceSub, Nat.reduceBEq, Nat.reduceBNe, Nat.reduceBeqDiff, Nat.reduceLT, Nat.reduceLeDiff, Nat.reduceEqDiff, Nat.reduceDiv, Nat.reduceMod, Nat.reducePow, Int.reduceLT, Int.reduceLE, Int.reduceGT, Int.reduceGE, Int.reduceEq, Int.reduceNe, Int.reduceToNat, Int.reduceNeg, Int.reducePow, Int.reduceAdd, Int.reduceMul, Int.reduceSub, Int.reduceBEq, Int.reduceMod, Int.reduceDiv, Int.reduceNatCast, Nat.min_def, hlt']
theorem Encode_spec {l : List Bool} (hl : l.length ≤ 65535) : dw E 22 [.sl 1 (bools l)] [] = some (.nr 5 1 (ints .u8 (encN l)), []) := by
  refine dw_intro (fn := Try.f22) rfl rfl (by decide) ?_
  have h1 : (l.length : Int) % 18446744073709551616 = l.length := by omega
  have h2 := num_len10 (u := (l.length : Int)) (by omega) (by omega)
  have hlim : ((num (l.length : Int)).length + 1) * 2 ≤ 70368744177664 := by omega
  unfold encN
  by_cases c0 : countL l = 0
  · have q0 : ((countL l : Int) = 0) = True := eq_true (by omega)
    rw [if_pos c0]
    simp -implicitDefEqProofs only [go_sem, ↓reduceIte, reduceCtorEq, reduceDIte, Nat.reduceAdd, Nat.reduceMul, Nat.reduceSub, Nat.reduceBEq, Nat.reduceBNe, Nat.reduceBeqDiff, Nat.reduceLT, Nat.reduceLeDiff, Nat.reduceEqDiff, Nat.reduceDiv, Nat.reduceMod, Nat.reducePow, Int.reduceLT, Int.reduceLE, Int.reduceGT, Int.reduceGE, Int.reduceEq, Int.reduceNe, Int.reduceToNat, Int.reduceNeg, Int.reducePow, Int.reduceAdd, Int.reduceMul, Int.reduceSub, Int.reduceBEq, Int.reduceMod, Int.reduceDiv, Int.reduceNatCast, Nat.min_def, h1, Num_nils (u := (l.length : Int)) (by omega) (by omega), Count_spec (l := l) (by omega), q0, hlim]
  · have q0 : ((countL l : Int) = 0) = False := eq_false (by omega)
    rw [if_neg c0]
    by_cases c1 : countL l = l.length
    · have q1 : ((countL l : Int) = l.length) = True := eq_true (by omega)
      rw [if_pos c1]
      simp -implicitDefEqProofs only [go_sem, ↓reduceIte, reduceCtorEq, reduceDIte, Nat.reduceAdd, Nat.reduceMul, Nat.reduceSub, Nat.reduceBEq, Nat.reduceBNe, Nat.reduceBeqDiff, Nat.reduceLT, Nat.reduceLeDiff, Nat.reduceEqDiff, Nat.reduceDiv, Nat.reduceMod, Nat.reducePow, Int.reduceLT, Int.reduceLE, Int.reduceGT, Int.reduceGE, Int.reduceEq, Int.reduceNe, Int.reduceToNat, Int.reduceNeg, Int.reducePow, Int.reduceAdd, Int.reduceMul, Int.reduceSub, Int.reduceBEq, Int.reduceMod, Int.reduceDiv, Int.reduceNatCast, Nat.min_def, h1, Num_nils (u := (l.length : Int)) (by omega) (by omega), Count_spec (l := l) (by omega), q0, q1, hlim]
    · have q1 : ((countL l : Int) = l.length) = False := eq_false (by omega)
      rw [if_neg c1]
      simp -implicitDefEqProofs only [go_sem, ↓reduceIte, reduceCtorEq, reduceDIte, Nat.reduceAdd, Nat.reduceMul, Nat.reduceSub, Nat.reduceBEq, Nat.reduceBNe, Nat.reduceBeqDiff, Nat.reduceLT, Nat.reduceLeDiff, Nat.reduceEqDiff, Nat.reduceDiv, Nat.reduceMod, Nat.reducePow, Int.reduceLT, Int.reduceLE, Int.reduceGT, Int.reduceGE, Int.reduceEq, Int.reduceNe, Int.reduceToNat, Int.reduceNeg, Int.reducePow, Int.reduceAdd, Int.reduceMul, Int.reduceSub, Int.reduceBEq, Int.reduceMod, Int.reduceDiv, Int.reduceNatCast, Nat.min_def, h1, Num_nils (u := (l.length : Int)) (by omega) (by omega), Count_spec (l := l) (by omega), q0, q1]
      refine runs_loop (fun i : Nat => (⟨[(3, .h 2097344), (4, .h 2097408), (25, .sl 1 (bools l)), (26, .int .i64 l.length), (27, .int .i64 i)], [(2097344, some ⟨true, .row 5 1 (ints .u8 (num l.length))⟩), (2097408, some ⟨true, .row 73 1 (ints .u64 ((l.take i).map bitI))⟩)], 1⟩ : St)) (fun i => l.length - i) 0 ?_
        (fun i => i ≤ l.length) (by omega) ?_
      · simp -implicitDefEqProofs only [go_sem, ↓reduceIte, reduceCtorEq, reduceDIte, Nat.reduceAdd, Nat.reduceMul, Nat.reduceSub, Nat.reduceBEq, Nat.reduceBNe, Nat.reduceBeqDiff, Nat.reduceLT, Nat.reduceLeDiff, Nat.reduceEqDiff, Nat.reduceDiv, Nat.reduceMod, Nat.reducePow, Int.reduceLT, Int.reduceLE, Int.reduceGT, Int.reduceGE, Int.reduceEq, Int.reduceNe, Int.reduceToNat, Int.reduceNeg, Int.reducePow, Int.reduceAdd, Int.reduceMul, Int.reduceSub, Int.reduceBEq, Int.reduceMod, Int.reduceDiv, Int.reduceNatCast, Nat.min_def]
        rfl
      · intro i hi
        by_cases hlt : i < l.length
        · obtain ⟨b, hb⟩ : ∃ b, l[i]? = some b := ⟨_, List.getElem?_eq_getElem hlt⟩
          have hlt' : (i : Int) < l.length := by omega
          have ei : 0 ≤ (i : Int) := by omega
          have en : ((i : Int) + 1 + 9223372036854775808) % 18446744073709551616 - 9223372036854775808 = ((i + 1 : Nat) : Int) := by omega
          have ht : l.take (i + 1) = l.take i ++ [b] := by rw [List.take_add_one, hb]; rfl
          have hlim2 : ((l.take i).length + 1) * 9 ≤ 70368744177664 := by rw [List.length_take]; omega
          simp -implicitDefEqProofs only [go_sem, ↓reduceIte, reduceCtorEq, reduceDIte, Nat.reduceAdd, Nat.reduceMul, Nat.reduceSub, Nat.reduceBEq, Nat.reduceBNe, Nat.reduceBeqDiff, Nat.reduceLT, Nat.reduceLeDiff, Nat.reduceEqDiff, Nat.reduceDiv, Nat.reduceMod, Nat.reducePow, Int.reduceLT, Int.reduceLE, Int.reduceGT, Int.reduceGE, Int.reduceEq, Int.reduceNe, Int.reduceToNat, Int.reduceNeg, Int.reducePow, Int.reduceAdd, Int.reduceMul, Int.reduceSub, Int.reduceBEq, Int.reduceMod, Int.reduceDiv, Int.reduceNatCast, Nat.min_def, hlt', ei, hb, en, bit_spec, hlim2]
          exact ⟨i + 1, by omega, by omega, by rw [ht, List.map_append]; rfl⟩
        · have hlt' : ¬ (i : Int) < l.length := by omega
          have hte : l.take i = l := List.take_of_length_le (by omega)
          have hp : dw E 47 [.int .i64 1, .sl 1 (ints .u64 (l.map bitI))] [] = some (.nr 5 1 (ints .u8 (packL 1 (l.map bitI))), []) := Pack_spec (n := 1) (by rw [List.length_map]; omega) (bits_R64 l)
          have hpl : (packL 1 (l.map bitI)).length ≤ 10000 := by rw [packL_length, List.length_map]; omega
          have hlim3 : ((num (l.length : Int)).length + 1 + (packL 1 (l.map bitI)).length) * 2 ≤ 70368744177664 := by omega
          rw [hte]
          simp -implicitDefEqProofs only [go_sem, ↓reduceIte, reduceCtorEq, reduceDIte, Nat.reduceAdd, Nat.reduceMul, Nat.reduceSub, Nat.reduceBEq, Nat.reduceBNe, Nat.reduceBeqDiff, Nat.reduceLT, Nat.reduceLeDiff, Nat.reduceEqDiff, Nat.reduceDiv, Nat.reduceMod, Nat.reducePow, Int.reduceLT, Int.reduceLE, Int.reduceGT, Int.reduceGE, Int.reduceEq, Int.reduceNe, Int.reduceToNat, Int.reduceNeg, Int.reducePow, Int.reduceAdd, Int.reduceMul, Int.reduceSub, Int.reduceBEq, Int.reduceMod, Int.reduceDiv, Int.reduceNatCast, Nat.min_def, hlt', hp, hlim, List.length_append, hlim3, List.append_assoc]
end Go.Proofs.Ytepofpmohiegpaa.D
