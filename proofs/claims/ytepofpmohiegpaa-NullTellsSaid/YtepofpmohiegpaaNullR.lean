/- The document's own bools in bytes. -/
import Derived.Test.YtepofpmohiegpaaNull2
import Derived.Test.YtepofpmohiegpaaBitR
namespace Go.Proofs.Ytepofpmohiegpaa.D
open Go Go.Den
set_option linter.unusedSimpArgs false
set_option maxRecDepth 20000
set_option maxHeartbeats 4000000
theorem bor64_128 {u : Int} (h0 : 0 ≤ u) : bor 64 (u % 128) 128 = u % 128 + 128 := by
  have := bor_add (a := 1) (b := (u % 128).toNat) 7 (by omega) (by omega)
  rw [Int.toNat_of_nonneg (by omega)] at this
  rw [show ((2 ^ 7 * 1 : Nat) : Int) = 128 from rfl] at this
  rw [this]; omega
theorem RefNum_spec {u : Int} (h0 : 0 ≤ u) (h1 : u < 18446744073709551616) :
    dw E 48 [.nils, .int .u64 u] [] = some (.nr 5 1 (ints .u8 (num u)), []) := by
  refine dw_intro (fn := Try.f48) rfl rfl (by decide) ?_
  simp -implicitDefEqProofs only [go_sem, ↓reduceIte, reduceCtorEq, reduceDIte, Nat.reduceAdd, Nat.reduceMul, Nat.reduceSub, Nat.reduceBEq, Nat.reduceBNe, Nat.reduceBeqDiff, Nat.reduceLT, Nat.reduceLeDiff, Nat.reduceEqDiff, Nat.reduceDiv, Nat.reduceMod, Nat.reducePow, Int.reduceLT, Int.reduceLE, Int.reduceGT, Int.reduceGE, Int.reduceEq, Int.reduceNe, Int.reduceToNat, Int.reduceNeg, Int.reducePow, Int.reduceAdd, Int.reduceMul, Int.reduceSub, Int.reduceBEq, Int.reduceMod, Int.reduceDiv, Int.reduceNatCast, Nat.min_def]
  have hten := num_len10 h0 h1
  refine runs_loop (fun a : List Int × Int => (⟨[(1, .int .u64 a.2), (5, .h 2097472)], [(2097472, some ⟨true, .row 5 1 (ints .u8 a.1)⟩)], 1⟩ : St)) (fun a => a.2.toNat) ([], u) ?_
    (fun a => 0 ≤ a.2 ∧ a.2 < 18446744073709551616 ∧ a.1 ++ num a.2 = num u) ⟨h0, h1, rfl⟩ ?_
  · simp -implicitDefEqProofs only [go_sem, ↓reduceIte, reduceCtorEq, reduceDIte, Nat.reduceAdd, Nat.reduceMul, Nat.reduceSub, Nat.reduceBEq, Nat.reduceBNe, Nat.reduceBeqDiff, Nat.reduceLT, Nat.reduceLeDiff, Nat.reduceEqDiff, Nat.reduceDiv, Nat.reduceMod, Nat.reducePow, Int.reduceLT, Int.reduceLE, Int.reduceGT, Int.reduceGE, Int.reduceEq, Int.reduceNe, Int.reduceToNat, Int.reduceNeg, Int.reducePow, Int.reduceAdd, Int.reduceMul, Int.reduceSub, Int.reduceBEq, Int.reduceMod, Int.reduceDiv, Int.reduceNatCast, Nat.min_def]
    rfl
  · rintro ⟨xs, v⟩ ⟨hv0, hv1, hx⟩
    have hlen := congrArg List.length hx
    simp only [List.length_append] at hlen
    have hpos := num_pos v
    by_cases hv : v < 128
    · have e1 : v % 256 = v := by omega
      have e2 : ¬ 127 < v := by omega
      have e3 : (xs.length + 1) * 2 ≤ 70368744177664 := by omega
      simp -implicitDefEqProofs only [go_sem, ↓reduceIte, reduceCtorEq, reduceDIte, Nat.reduceAdd, Nat.reduceMul, Nat.reduceSub, Nat.reduceBEq, Nat.reduceBNe, Nat.reduceBeqDiff, Nat.reduceLT, Nat.reduceLeDiff, Nat.reduceEqDiff, Nat.reduceDiv, Nat.reduceMod, Nat.reducePow, Int.reduceLT, Int.reduceLE, Int.reduceGT, Int.reduceGE, Int.reduceEq, Int.reduceNe, Int.reduceToNat, Int.reduceNeg, Int.reducePow, Int.reduceAdd, Int.reduceMul, Int.reduceSub, Int.reduceBEq, Int.reduceMod, Int.reduceDiv, Int.reduceNatCast, Nat.min_def, e1, e2, e3]
      rw [num_lt hv0 hv] at hx
      rw [hx]
    · have e2 : 127 < v := by omega
      have e3 : (xs.length + 1) * 2 ≤ 70368744177664 := by omega
      have e4 : band 64 v 127 = v % 128 := band_mask hv0 hv1 7 (by decide)
      have e5 : (v % 128 + 128) % 256 = v % 128 + 128 := by omega
      rw [num_ge (by omega)] at hx
      simp -implicitDefEqProofs only [go_sem, ↓reduceIte, reduceCtorEq, reduceDIte, Nat.reduceAdd, Nat.reduceMul, Nat.reduceSub, Nat.reduceBEq, Nat.reduceBNe, Nat.reduceBeqDiff, Nat.reduceLT, Nat.reduceLeDiff, Nat.reduceEqDiff, Nat.reduceDiv, Nat.reduceMod, Nat.reducePow, Int.reduceLT, Int.reduceLE, Int.reduceGT, Int.reduceGE, Int.reduceEq, Int.reduceNe, Int.reduceToNat, Int.reduceNeg, Int.reducePow, Int.reduceAdd, Int.reduceMul, Int.reduceSub, Int.reduceBEq, Int.reduceMod, Int.reduceDiv, Int.reduceNatCast, Nat.min_def, e2, e3, e4, bor64_128 hv0, e5]
      refine ⟨(xs ++ [v % 128 + 128], v.fdiv 128), ⟨?_, ?_, ?_⟩, ?_, ?_⟩
      · rw [Int.fdiv_eq_ediv_of_nonneg _ (by decide)]; omega
      · rw [Int.fdiv_eq_ediv_of_nonneg _ (by decide)]; omega
      · rw [Int.fdiv_eq_ediv_of_nonneg _ (by decide), List.append_assoc]; exact hx
      · rw [Int.fdiv_eq_ediv_of_nonneg _ (by decide)]; omega
      · rfl
theorem RefCount_spec {l : List Bool} (hl : l.length ≤ 1000000000) : dw E 24 [.sl 1 (bools l)] [] = some (.int .i64 (countL l), []) := by
  refine dw_intro (fn := Try.f24) rfl rfl (by decide) ?_
  simp -implicitDefEqProofs only [go_sem, ↓reduceIte, reduceCtorEq, reduceDIte, Nat.reduceAdd, Nat.reduceMul, Nat.reduceSub, Nat.reduceBEq, Nat.reduceBNe, Nat.reduceBeqDiff, Nat.reduceLT, Nat.reduceLeDiff, Nat.reduceEqDiff, Nat.reduceDiv, Nat.reduceMod, Nat.reducePow, Int.reduceLT, Int.reduceLE, Int.reduceGT, Int.reduceGE, Int.reduceEq, Int.reduceNe, Int.reduceToNat, Int.reduceNeg, Int.reducePow, Int.reduceAdd, Int.reduceMul, Int.reduceSub, Int.reduceBEq, Int.reduceMod, Int.reduceDiv, Int.reduceNatCast, Nat.min_def]
  refine runs_loop (fun i : Nat => (⟨[(0, .sl 1 (bools l)), (3, .int .i64 (countL (l.take i))), (4, .int .i64 i)], [], 1⟩ : St)) (fun i => l.length - i) 0 ?_
    (fun i => i ≤ l.length) (by omega) ?_
  · simp -implicitDefEqProofs only [go_sem, ↓reduceIte, reduceCtorEq, reduceDIte, Nat.reduceAdd, Nat.reduceMul, Nat.reduceSub, Nat.reduceBEq, Nat.reduceBNe, Nat.reduceBeqDiff, Nat.reduceLT, Nat.reduceLeDiff, Nat.reduceEqDiff, Nat.reduceDiv, Nat.reduceMod, Nat.reducePow, Int.reduceLT, Int.reduceLE, Int.reduceGT, Int.reduceGE, Int.reduceEq, Int.reduceNe, Int.reduceToNat, Int.reduceNeg, Int.reducePow, Int.reduceAdd, Int.reduceMul, Int.reduceSub, Int.reduceBEq, Int.reduceMod, Int.reduceDiv, Int.reduceNatCast, Nat.min_def]
    rfl
  · intro i hi
    by_cases hlt : i < l.length
    · obtain ⟨b, hb⟩ : ∃ b, l[i]? = some b := ⟨_, List.getElem?_eq_getElem hlt⟩
      have hlt' : (i : Int) < l.length := by omega
      have ei : 0 ≤ (i : Int) := by omega
      have en : ((i : Int) + 1 + 9223372036854775808) % 18446744073709551616 - 9223372036854775808 = ((i + 1 : Nat) : Int) := by omega
      have ht : l.take (i + 1) = l.take i ++ [b] := by rw [List.take_add_one, hb]; rfl
      have hc := countL_le (l.take i)
      rw [List.length_take] at hc
      have ec : ((countL (l.take i) : Int) + 1 + 9223372036854775808) % 18446744073709551616 - 9223372036854775808 = ((countL (l.take i) + 1 : Nat) : Int) := by omega
      cases b with
      | true =>
        simp -implicitDefEqProofs only [go_sem, ↓reduceIte, reduceCtorEq, reduceDIte, Nat.reduceAdd, Nat.reduceMul, Nat.reduceSub, Nat.reduceBEq, Nat.reduceBNe, Nat.reduceBeqDiff, Nat.reduceLT, Nat.reduceLeDiff, Nat.reduceEqDiff, Nat.reduceDiv, Nat.reduceMod, Nat.reducePow, Int.reduceLT, Int.reduceLE, Int.reduceGT, Int.reduceGE, Int.reduceEq, Int.reduceNe, Int.reduceToNat, Int.reduceNeg, Int.reducePow, Int.reduceAdd, Int.reduceMul, Int.reduceSub, Int.reduceBEq, Int.reduceMod, Int.reduceDiv, Int.reduceNatCast, Nat.min_def, hlt', ei, hb, en, ec]
        exact ⟨i + 1, by omega, by omega, by rw [ht, count_snoc]; rfl⟩
      | false =>
        simp -implicitDefEqProofs only [go_sem, ↓reduceIte, reduceCtorEq, reduceDIte, Nat.reduceAdd, Nat.reduceMul, Nat.reduceSub, Nat.reduceBEq, Nat.reduceBNe, Nat.reduceBeqDiff, Nat.reduceLT, Nat.reduceLeDiff, Nat.reduceEqDiff, Nat.reduceDiv, Nat.reduceMod, Nat.reducePow, Int.reduceLT, Int.reduceLE, Int.reduceGT, Int.reduceGE, Int.reduceEq, Int.reduceNe, Int.reduceToNat, Int.reduceNeg, Int.reducePow, Int.reduceAdd, Int.reduceMul, Int.reduceSub, Int.reduceBEq, Int.reduceMod, Int.reduceDiv, Int.reduceNatCast, Nat.min_def, hlt', ei, hb, en]
        exact ⟨i + 1, by omega, by omega, by rw [ht, count_snoc]; rfl⟩
    · have hlt' : ¬ (i : Int) < l.length := by omega
      have hte : l.take i = l := List.take_of_length_le (by omega)
      rw [hte]
      simp -implicitDefEqProofs only [go_sem, ↓reduceIte, reduceCtorEq, reduceDIte, Nat.reduceAdd, Nat.reduceMul, Nat.reduceSub, Nat.reduceBEq, Nat.reduceBNe, Nat.reduceBeqDiff, Nat.reduceLT, Nat.reduceLeDiff, Nat.reduceEqDiff, Nat.reduceDiv, Nat.reduceMod, Nat.reducePow, Int.reduceLT, Int.reduceLE, Int.reduceGT, Int.reduceGE, Int.reduceEq, Int.reduceNe, Int.reduceToNat, Int.reduceNeg, Int.reducePow, Int.reduceAdd, Int.reduceMul, Int.reduceSub, Int.reduceBEq, Int.reduceMod, Int.reduceDiv, Int.reduceNatCast, Nat.min_def, hlt']
theorem RefNulls_spec {l : List Bool} (hl : l.length ≤ 65535) : dw E 23 [.sl 1 (bools l)] [] = some (.nr 5 1 (ints .u8 (encN l)), []) := by
  refine dw_intro (fn := Try.f23) rfl rfl (by decide) ?_
  have h1 : (l.length : Int) % 18446744073709551616 = l.length := by omega
  have h2 := num_len10 (u := (l.length : Int)) (by omega) (by omega)
  have hlim : ((num (l.length : Int)).length + 1) * 2 ≤ 70368744177664 := by omega
  unfold encN
  by_cases c0 : countL l = 0
  · have q0 : ((countL l : Int) = 0) = True := eq_true (by omega)
    rw [if_pos c0]
    simp -implicitDefEqProofs only [go_sem, ↓reduceIte, reduceCtorEq, reduceDIte, Nat.reduceAdd, Nat.reduceMul, Nat.reduceSub, Nat.reduceBEq, Nat.reduceBNe, Nat.reduceBeqDiff, Nat.reduceLT, Nat.reduceLeDiff, Nat.reduceEqDiff, Nat.reduceDiv, Nat.reduceMod, Nat.reducePow, Int.reduceLT, Int.reduceLE, Int.reduceGT, Int.reduceGE, Int.reduceEq, Int.reduceNe, Int.reduceToNat, Int.reduceNeg, Int.reducePow, Int.reduceAdd, Int.reduceMul, Int.reduceSub, Int.reduceBEq, Int.reduceMod, Int.reduceDiv, Int.reduceNatCast, Nat.min_def, h1, RefNum_spec (u := (l.length : Int)) (by omega) (by omega), RefCount_spec (l := l) (by omega), q0, hlim]
  · have q0 : ((countL l : Int) = 0) = False := eq_false (by omega)
    rw [if_neg c0]
    by_cases c1 : countL l = l.length
    · have q1 : ((countL l : Int) = l.length) = True := eq_true (by omega)
      rw [if_pos c1]
      simp -implicitDefEqProofs only [go_sem, ↓reduceIte, reduceCtorEq, reduceDIte, Nat.reduceAdd, Nat.reduceMul, Nat.reduceSub, Nat.reduceBEq, Nat.reduceBNe, Nat.reduceBeqDiff, Nat.reduceLT, Nat.reduceLeDiff, Nat.reduceEqDiff, Nat.reduceDiv, Nat.reduceMod, Nat.reducePow, Int.reduceLT, Int.reduceLE, Int.reduceGT, Int.reduceGE, Int.reduceEq, Int.reduceNe, Int.reduceToNat, Int.reduceNeg, Int.reducePow, Int.reduceAdd, Int.reduceMul, Int.reduceSub, Int.reduceBEq, Int.reduceMod, Int.reduceDiv, Int.reduceNatCast, Nat.min_def, h1, RefNum_spec (u := (l.length : Int)) (by omega) (by omega), RefCount_spec (l := l) (by omega), q0, q1, hlim]
    · have q1 : ((countL l : Int) = l.length) = False := eq_false (by omega)
      rw [if_neg c1]
      simp -implicitDefEqProofs only [go_sem, ↓reduceIte, reduceCtorEq, reduceDIte, Nat.reduceAdd, Nat.reduceMul, Nat.reduceSub, Nat.reduceBEq, Nat.reduceBNe, Nat.reduceBeqDiff, Nat.reduceLT, Nat.reduceLeDiff, Nat.reduceEqDiff, Nat.reduceDiv, Nat.reduceMod, Nat.reducePow, Int.reduceLT, Int.reduceLE, Int.reduceGT, Int.reduceGE, Int.reduceEq, Int.reduceNe, Int.reduceToNat, Int.reduceNeg, Int.reducePow, Int.reduceAdd, Int.reduceMul, Int.reduceSub, Int.reduceBEq, Int.reduceMod, Int.reduceDiv, Int.reduceNatCast, Nat.min_def, h1, RefNum_spec (u := (l.length : Int)) (by omega) (by omega), RefCount_spec (l := l) (by omega), q0, q1]
      refine runs_loop (fun i : Nat => (⟨[(0, .sl 1 (bools l)), (3, .h 2097344), (5, .h 2097472), (6, .int .i64 i)], [(2097344, some ⟨true, .row 5 1 (ints .u8 (num l.length))⟩), (2097472, some ⟨true, .row 73 1 (ints .u64 ((l.take i).map bitI))⟩)], 1⟩ : St)) (fun i => l.length - i) 0 ?_
        (fun i => i ≤ l.length) (by omega) ?_
      · simp -implicitDefEqProofs only [go_sem, ↓reduceIte, reduceCtorEq, reduceDIte, Nat.reduceAdd, Nat.reduceMul, Nat.reduceSub, Nat.reduceBEq, Nat.reduceBNe, Nat.reduceBeqDiff, Nat.reduceLT, Nat.reduceLeDiff, Nat.reduceEqDiff, Nat.reduceDiv, Nat.reduceMod, Nat.reducePow, Int.reduceLT, Int.reduceLE, Int.reduceGT, Int.reduceGE, Int.reduceEq, Int.reduceNe, Int.reduceToNat, Int.reduceNeg, Int.reducePow, Int.reduceAdd, Int.reduceMul, Int.reduceSub, Int.reduceBEq, Int.reduceMod, Int.reduceDiv, Int.reduceNatCast, Nat.min_def]
        rfl
      · intro i hi
        by_cases hlt : i < l.length
        · obtain ⟨b, hb⟩ : ∃ b, l[i]? = some b := ⟨_, List.getElem?_eq_getElem hlt⟩
          have hlt' : (i : Int) < l.length := by omega
          have ei : 0 ≤ (i : Int) := by omega
          have en : ((i : Int) + 1 + 9223372036854775808) % 18446744073709551616 - 9223372036854775808 = ((i + 1 : Nat) : Int) := by omega
          have ht : l.take (i + 1) = l.take i ++ [b] := by rw [List.take_add_one, hb]; rfl
          have hlim2 : (((l.take i).map bitI).length + 1) * 9 ≤ 70368744177664 := by rw [List.length_map, List.length_take]; omega
          have hlim3 : ((l.take i).length + 1) * 9 ≤ 70368744177664 := by rw [List.length_take]; omega
          cases b with
          | true =>
            simp -implicitDefEqProofs only [go_sem, ↓reduceIte, reduceCtorEq, reduceDIte, Nat.reduceAdd, Nat.reduceMul, Nat.reduceSub, Nat.reduceBEq, Nat.reduceBNe, Nat.reduceBeqDiff, Nat.reduceLT, Nat.reduceLeDiff, Nat.reduceEqDiff, Nat.reduceDiv, Nat.reduceMod, Nat.reducePow, Int.reduceLT, Int.reduceLE, Int.reduceGT, Int.reduceGE, Int.reduceEq, Int.reduceNe, Int.reduceToNat, Int.reduceNeg, Int.reducePow, Int.reduceAdd, Int.reduceMul, Int.reduceSub, Int.reduceBEq, Int.reduceMod, Int.reduceDiv, Int.reduceNatCast, Nat.min_def, hlt', ei, hb, en, hlim2, hlim3]
            exact ⟨i + 1, by omega, by omega, by rw [ht, List.map_append]; rfl⟩
          | false =>
            simp -implicitDefEqProofs only [go_sem, ↓reduceIte, reduceCtorEq, reduceDIte, Nat.reduceAdd, Nat.reduceMul, Nat.reduceSub, Nat.reduceBEq, Nat.reduceBNe, Nat.reduceBeqDiff, Nat.reduceLT, Nat.reduceLeDiff, Nat.reduceEqDiff, Nat.reduceDiv, Nat.reduceMod, Nat.reducePow, Int.reduceLT, Int.reduceLE, Int.reduceGT, Int.reduceGE, Int.reduceEq, Int.reduceNe, Int.reduceToNat, Int.reduceNeg, Int.reducePow, Int.reduceAdd, Int.reduceMul, Int.reduceSub, Int.reduceBEq, Int.reduceMod, Int.reduceDiv, Int.reduceNatCast, Nat.min_def, hlt', ei, hb, en, hlim2, hlim3]
            exact ⟨i + 1, by omega, by omega, by rw [ht, List.map_append]; rfl⟩
        · have hlt' : ¬ (i : Int) < l.length := by omega
          have hte : l.take i = l := List.take_of_length_le (by omega)
          have hp : dw E 49 [.int .i64 1, .sl 1 (ints .u64 (l.map bitI))] [] = some (.nr 5 1 (ints .u8 (packL 1 (l.map bitI))), []) := RPack_spec (n := 1) (by rw [List.length_map]; omega) (bits_R64 l)
          have hpl : (packL 1 (l.map bitI)).length ≤ 10000 := by rw [packL_length, List.length_map]; omega
          have hlim3 : ((num (l.length : Int)).length + 1 + (packL 1 (l.map bitI)).length) * 2 ≤ 70368744177664 := by omega
          rw [hte]
          simp -implicitDefEqProofs only [go_sem, ↓reduceIte, reduceCtorEq, reduceDIte, Nat.reduceAdd, Nat.reduceMul, Nat.reduceSub, Nat.reduceBEq, Nat.reduceBNe, Nat.reduceBeqDiff, Nat.reduceLT, Nat.reduceLeDiff, Nat.reduceEqDiff, Nat.reduceDiv, Nat.reduceMod, Nat.reducePow, Int.reduceLT, Int.reduceLE, Int.reduceGT, Int.reduceGE, Int.reduceEq, Int.reduceNe, Int.reduceToNat, Int.reduceNeg, Int.reducePow, Int.reduceAdd, Int.reduceMul, Int.reduceSub, Int.reduceBEq, Int.reduceMod, Int.reduceDiv, Int.reduceNatCast, Nat.min_def, hlt', hp, hlim, List.length_append, hlim3, List.append_assoc]
/-- what is left of the document's reader -/
def refN (zs : List Int) : Option (Int × List Int) → PV × List (List PV)
  | some (v, r) => (.int .u64 v, [[.sl 1 (ints .u8 r), .bool false]])
  | none => (.int .u64 0, [[.sl 1 (ints .u8 zs), .bool true]])
theorem RefRNum_sl {zs : List Int} (hz : R8 zs) (hl : zs.length ≤ 1000000000000) : dw E 50 [.pb 16777216 0] [[.sl 1 (ints .u8 zs), .bool false]] = some (refN zs (pnum 0 0 zs)) := by
  refine dw_intro (fn := Try.f50) rfl rfl (by simp) ?_
  simp -implicitDefEqProofs only [go_sem, ↓reduceIte, reduceCtorEq, reduceDIte, Nat.reduceAdd, Nat.reduceMul, Nat.reduceSub, Nat.reduceBEq, Nat.reduceBNe, Nat.reduceBeqDiff, Nat.reduceLT, Nat.reduceLeDiff, Nat.reduceEqDiff, Nat.reduceDiv, Nat.reduceMod, Nat.reducePow, Int.reduceLT, Int.reduceLE, Int.reduceGT, Int.reduceGE, Int.reduceEq, Int.reduceNe, Int.reduceToNat, Int.reduceNeg, Int.reducePow, Int.reduceAdd, Int.reduceMul, Int.reduceSub, Int.reduceBEq, Int.reduceMod, Int.reduceDiv, Int.reduceNatCast, Nat.min_def]
  refine runs_loop (fun a : Nat × Int => (⟨[(0, .pb 16777216 0), (3, .int .u64 a.2), (4, .int .i64 a.1)], [(16777216, some ⟨true, .box [.sl 1 (ints .u8 zs), .bool false]⟩)], 1⟩ : St)) (fun a => zs.length - a.1) (0, 0) ?_
    (fun a => a.1 ≤ zs.length ∧ a.1 ≤ 9 ∧ 0 ≤ a.2 ∧ a.2 < 128 ^ a.1 ∧ pnum 0 0 zs = pnum a.1 a.2 (zs.drop a.1)) ⟨by simp, by simp, by simp, by simp, by simp⟩ ?_
  · simp -implicitDefEqProofs only [go_sem, ↓reduceIte, reduceCtorEq, reduceDIte, Nat.reduceAdd, Nat.reduceMul, Nat.reduceSub, Nat.reduceBEq, Nat.reduceBNe, Nat.reduceBeqDiff, Nat.reduceLT, Nat.reduceLeDiff, Nat.reduceEqDiff, Nat.reduceDiv, Nat.reduceMod, Nat.reducePow, Int.reduceLT, Int.reduceLE, Int.reduceGT, Int.reduceGE, Int.reduceEq, Int.reduceNe, Int.reduceToNat, Int.reduceNeg, Int.reducePow, Int.reduceAdd, Int.reduceMul, Int.reduceSub, Int.reduceBEq, Int.reduceMod, Int.reduceDiv, Int.reduceNatCast, Nat.min_def]
  · rintro ⟨i, u⟩ ⟨hi, hi9, hu0, hu1, hp⟩
    dsimp only at hi hi9 hu0 hu1 hp
    have h10 : (i : Int) < 10 := by omega
    by_cases hlt : i < zs.length
    · have hlt' : (i : Int) < zs.length := by omega
      obtain ⟨c, hc⟩ : ∃ c, zs[i]? = some c := ⟨_, List.getElem?_eq_getElem hlt⟩
      obtain ⟨hc0, hc1⟩ := hz c (List.mem_of_getElem? hc)
      have hd : zs.drop i = c :: zs.drop (i + 1) := by
        rw [List.drop_eq_getElem_cons hlt, (List.getElem?_eq_some_iff.1 hc).2]
      rw [hd, pnum] at hp
      have ei : 0 ≤ (i : Int) := by omega
      by_cases hbad : (i = 9 ∧ 1 < c) ∨ (0 < i ∧ c = 0)
      · rw [if_pos hbad] at hp
        by_cases h9 : i = 9
        · have e9 : ((i : Int) = 9) = True := eq_true (by omega)
          have e0 : (0 : Int) < (i : Int) := by omega
          by_cases hcc : 1 < c
          · simp -implicitDefEqProofs only [go_sem, ↓reduceIte, reduceCtorEq, reduceDIte, Nat.reduceAdd, Nat.reduceMul, Nat.reduceSub, Nat.reduceBEq, Nat.reduceBNe, Nat.reduceBeqDiff, Nat.reduceLT, Nat.reduceLeDiff, Nat.reduceEqDiff, Nat.reduceDiv, Nat.reduceMod, Nat.reducePow, Int.reduceLT, Int.reduceLE, Int.reduceGT, Int.reduceGE, Int.reduceEq, Int.reduceNe, Int.reduceToNat, Int.reduceNeg, Int.reducePow, Int.reduceAdd, Int.reduceMul, Int.reduceSub, Int.reduceBEq, Int.reduceMod, Int.reduceDiv, Int.reduceNatCast, Nat.min_def, hlt', h10, ei, hc, hp, e9, hcc, refN]
          · have ec : (c = 0) = True := eq_true (by omega)
            simp -implicitDefEqProofs only [go_sem, ↓reduceIte, reduceCtorEq, reduceDIte, Nat.reduceAdd, Nat.reduceMul, Nat.reduceSub, Nat.reduceBEq, Nat.reduceBNe, Nat.reduceBeqDiff, Nat.reduceLT, Nat.reduceLeDiff, Nat.reduceEqDiff, Nat.reduceDiv, Nat.reduceMod, Nat.reducePow, Int.reduceLT, Int.reduceLE, Int.reduceGT, Int.reduceGE, Int.reduceEq, Int.reduceNe, Int.reduceToNat, Int.reduceNeg, Int.reducePow, Int.reduceAdd, Int.reduceMul, Int.reduceSub, Int.reduceBEq, Int.reduceMod, Int.reduceDiv, Int.reduceNatCast, Nat.min_def, hlt', h10, ei, hc, hp, e9, hcc, e0, ec, refN]
        · have e9 : ((i : Int) = 9) = False := eq_false (by omega)
          have e0 : (0 : Int) < (i : Int) := by omega
          have ec : (c = 0) = True := eq_true (by omega)
          simp -implicitDefEqProofs only [go_sem, ↓reduceIte, reduceCtorEq, reduceDIte, Nat.reduceAdd, Nat.reduceMul, Nat.reduceSub, Nat.reduceBEq, Nat.reduceBNe, Nat.reduceBeqDiff, Nat.reduceLT, Nat.reduceLeDiff, Nat.reduceEqDiff, Nat.reduceDiv, Nat.reduceMod, Nat.reducePow, Int.reduceLT, Int.reduceLE, Int.reduceGT, Int.reduceGE, Int.reduceEq, Int.reduceNe, Int.reduceToNat, Int.reduceNeg, Int.reducePow, Int.reduceAdd, Int.reduceMul, Int.reduceSub, Int.reduceBEq, Int.reduceMod, Int.reduceDiv, Int.reduceNatCast, Nat.min_def, hlt', h10, ei, hc, hp, e9, e0, ec, refN]
      · rw [if_neg hbad] at hp
        have eb : bor 64 u (c % 128 % 18446744073709551616 * 2 ^ (if 7 * i ≤ 64 then 7 * i else 64) % 18446744073709551616) = u + c % 128 * 128 ^ i := by
          rw [if_pos (by omega), Int.emod_eq_of_lt (a := c % 128) (by omega) (by omega)]
          exact bor_shl hu0 hu1 (by omega) (by omega) hi9 (by omega)
        have e7 : (7 * (i : Int) + 9223372036854775808) % 18446744073709551616 - 9223372036854775808 = ((7 * i : Nat) : Int) := by omega
        have e72 : ((7 * i : Nat) : Int) % 18446744073709551616 = ((7 * i : Nat) : Int) := by omega
        have e71 : ¬ (((7 * i : Nat) : Int) < 0) := by omega
        have en : ((i : Int) + 1 + 9223372036854775808) % 18446744073709551616 - 9223372036854775808 = ((i + 1 : Nat) : Int) := by omega
        have en0 : 0 ≤ ((i + 1 : Nat) : Int) := by omega
        have en1 : ((i + 1 : Nat) : Int) ≤ zs.length := by omega
        have eu0 : 0 ≤ u + c % 128 * 128 ^ i := Int.add_nonneg hu0 (Int.mul_nonneg (by omega) (Int.pow_nonneg (by decide)))
        have eu1 : u + c % 128 * 128 ^ i < 128 ^ (i + 1) := by
          have h3 : c % 128 * 128 ^ i ≤ 127 * (128 : Int) ^ i := Int.mul_le_mul_of_nonneg_right (by omega) (Int.pow_nonneg (by decide))
          rw [Int.pow_succ]; omega
        by_cases h9 : i = 9
        · have e9 : ((i : Int) = 9) = True := eq_true (by omega)
          have hcc : ¬ 1 < c := by omega
          have e0 : (0 : Int) < (i : Int) := by omega
          have ec : (c = 0) = False := eq_false (by omega)
          have e8 : c < 128 := by omega
          rw [if_pos e8] at hp
          simp -implicitDefEqProofs only [go_sem, ↓reduceIte, reduceCtorEq, reduceDIte, Nat.reduceAdd, Nat.reduceMul, Nat.reduceSub, Nat.reduceBEq, Nat.reduceBNe, Nat.reduceBeqDiff, Nat.reduceLT, Nat.reduceLeDiff, Nat.reduceEqDiff, Nat.reduceDiv, Nat.reduceMod, Nat.reducePow, Int.reduceLT, Int.reduceLE, Int.reduceGT, Int.reduceGE, Int.reduceEq, Int.reduceNe, Int.reduceToNat, Int.reduceNeg, Int.reducePow, Int.reduceAdd, Int.reduceMul, Int.reduceSub, Int.reduceBEq, Int.reduceMod, Int.reduceDiv, Int.reduceNatCast, Nat.min_def, hlt', h10, ei, hc, hp, e9, hcc, e0, ec, e8, band127 hc0 hc1, e7, e72, e71, eb, en, en0, en1, refN]
        · have e9 : ((i : Int) = 9) = False := eq_false (by omega)
          by_cases h0 : i = 0
          · have e0 : ¬ (0 : Int) < (i : Int) := by omega
            have ec : True := trivial
            by_cases c0 : c = 0
            · have ec0 := eq_true c0
              have e8 : c < 128 := by omega
              rw [if_pos e8] at hp
              simp -implicitDefEqProofs only [go_sem, ↓reduceIte, reduceCtorEq, reduceDIte, Nat.reduceAdd, Nat.reduceMul, Nat.reduceSub, Nat.reduceBEq, Nat.reduceBNe, Nat.reduceBeqDiff, Nat.reduceLT, Nat.reduceLeDiff, Nat.reduceEqDiff, Nat.reduceDiv, Nat.reduceMod, Nat.reducePow, Int.reduceLT, Int.reduceLE, Int.reduceGT, Int.reduceGE, Int.reduceEq, Int.reduceNe, Int.reduceToNat, Int.reduceNeg, Int.reducePow, Int.reduceAdd, Int.reduceMul, Int.reduceSub, Int.reduceBEq, Int.reduceMod, Int.reduceDiv, Int.reduceNatCast, Nat.min_def, hlt', h10, ei, hc, hp, e9, e0, ec0, e8, band127 hc0 hc1, e7, e72, e71, eb, en, en0, en1, refN]
            · by_cases e8 : c < 128
              · rw [if_pos e8] at hp
                simp -implicitDefEqProofs only [go_sem, ↓reduceIte, reduceCtorEq, reduceDIte, Nat.reduceAdd, Nat.reduceMul, Nat.reduceSub, Nat.reduceBEq, Nat.reduceBNe, Nat.reduceBeqDiff, Nat.reduceLT, Nat.reduceLeDiff, Nat.reduceEqDiff, Nat.reduceDiv, Nat.reduceMod, Nat.reducePow, Int.reduceLT, Int.reduceLE, Int.reduceGT, Int.reduceGE, Int.reduceEq, Int.reduceNe, Int.reduceToNat, Int.reduceNeg, Int.reducePow, Int.reduceAdd, Int.reduceMul, Int.reduceSub, Int.reduceBEq, Int.reduceMod, Int.reduceDiv, Int.reduceNatCast, Nat.min_def, hlt', h10, ei, hc, hp, e9, e0, c0, e8, band127 hc0 hc1, e7, e72, e71, eb, en, en0, en1, refN]
              · rw [if_neg e8] at hp
                simp -implicitDefEqProofs only [go_sem, ↓reduceIte, reduceCtorEq, reduceDIte, Nat.reduceAdd, Nat.reduceMul, Nat.reduceSub, Nat.reduceBEq, Nat.reduceBNe, Nat.reduceBeqDiff, Nat.reduceLT, Nat.reduceLeDiff, Nat.reduceEqDiff, Nat.reduceDiv, Nat.reduceMod, Nat.reducePow, Int.reduceLT, Int.reduceLE, Int.reduceGT, Int.reduceGE, Int.reduceEq, Int.reduceNe, Int.reduceToNat, Int.reduceNeg, Int.reducePow, Int.reduceAdd, Int.reduceMul, Int.reduceSub, Int.reduceBEq, Int.reduceMod, Int.reduceDiv, Int.reduceNatCast, Nat.min_def, hlt', h10, ei, hc, e9, e0, c0, e8, band127 hc0 hc1, e7, e72, e71, eb, en]
                exact ⟨(i + 1, u + c % 128 * 128 ^ i), ⟨by omega, by omega, eu0, eu1, hp⟩, by omega, rfl⟩
          · have e0 : (0 : Int) < (i : Int) := by omega
            have ec : (c = 0) = False := eq_false (by omega)
            by_cases e8 : c < 128
            · rw [if_pos e8] at hp
              simp -implicitDefEqProofs only [go_sem, ↓reduceIte, reduceCtorEq, reduceDIte, Nat.reduceAdd, Nat.reduceMul, Nat.reduceSub, Nat.reduceBEq, Nat.reduceBNe, Nat.reduceBeqDiff, Nat.reduceLT, Nat.reduceLeDiff, Nat.reduceEqDiff, Nat.reduceDiv, Nat.reduceMod, Nat.reducePow, Int.reduceLT, Int.reduceLE, Int.reduceGT, Int.reduceGE, Int.reduceEq, Int.reduceNe, Int.reduceToNat, Int.reduceNeg, Int.reducePow, Int.reduceAdd, Int.reduceMul, Int.reduceSub, Int.reduceBEq, Int.reduceMod, Int.reduceDiv, Int.reduceNatCast, Nat.min_def, hlt', h10, ei, hc, hp, e9, e0, ec, e8, band127 hc0 hc1, e7, e72, e71, eb, en, en0, en1, refN]
            · rw [if_neg e8] at hp
              simp -implicitDefEqProofs only [go_sem, ↓reduceIte, reduceCtorEq, reduceDIte, Nat.reduceAdd, Nat.reduceMul, Nat.reduceSub, Nat.reduceBEq, Nat.reduceBNe, Nat.reduceBeqDiff, Nat.reduceLT, Nat.reduceLeDiff, Nat.reduceEqDiff, Nat.reduceDiv, Nat.reduceMod, Nat.reducePow, Int.reduceLT, Int.reduceLE, Int.reduceGT, Int.reduceGE, Int.reduceEq, Int.reduceNe, Int.reduceToNat, Int.reduceNeg, Int.reducePow, Int.reduceAdd, Int.reduceMul, Int.reduceSub, Int.reduceBEq, Int.reduceMod, Int.reduceDiv, Int.reduceNatCast, Nat.min_def, hlt', h10, ei, hc, e9, e0, ec, e8, band127 hc0 hc1, e7, e72, e71, eb, en]
              exact ⟨(i + 1, u + c % 128 * 128 ^ i), ⟨by omega, by omega, eu0, eu1, hp⟩, by omega, rfl⟩
    · have hlt' : ¬ (i : Int) < zs.length := by omega
      have : zs.drop i = [] := List.drop_eq_nil_of_le (by omega)
      rw [this, pnum] at hp
      simp -implicitDefEqProofs only [go_sem, ↓reduceIte, reduceCtorEq, reduceDIte, Nat.reduceAdd, Nat.reduceMul, Nat.reduceSub, Nat.reduceBEq, Nat.reduceBNe, Nat.reduceBeqDiff, Nat.reduceLT, Nat.reduceLeDiff, Nat.reduceEqDiff, Nat.reduceDiv, Nat.reduceMod, Nat.reducePow, Int.reduceLT, Int.reduceLE, Int.reduceGT, Int.reduceGE, Int.reduceEq, Int.reduceNe, Int.reduceToNat, Int.reduceNeg, Int.reducePow, Int.reduceAdd, Int.reduceMul, Int.reduceSub, Int.reduceBEq, Int.reduceMod, Int.reduceDiv, Int.reduceNatCast, Nat.min_def, hlt', hp, refN]
end Go.Proofs.Ytepofpmohiegpaa.D
