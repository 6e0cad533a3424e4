/- The document's way to read bools off bytes. -/
import Derived.Test.YtepofpmohiegpaaNullR
import Derived.Test.YtepofpmohiegpaaNullBack
import Derived.Test.YtepofpmohiegpaaDenK4
namespace Go.Proofs.Ytepofpmohiegpaa.D
open Go Go.Den
set_option linter.unusedSimpArgs false
set_option maxRecDepth 20000
set_option maxHeartbeats 4000000
theorem bitstep {zn k : Nat} (hk : k < 8) : (band 8 ((zn / 2 ^ (7 - k) : Nat) : Int) 1) = ((bitN zn (7 - k) : Nat) : Int) := by
  have key : ∀ x : BitVec 8, ((x &&& 1#8).toNat : Int) = x.toNat % 2 := by decide
  unfold band bitN
  rw [show BitVec.ofInt 8 1 = 1#8 from by decide, key, BitVec.toNat_ofInt]
  omega
theorem GetNulls_spec {zs : List Int} (h8 : R8 zs) (hz : zs.length ≤ 1000000) : dw E 25 [.sl 1 (ints .u8 zs)] [] = some (resD (decN zs), []) := by
  refine dw_in (fn := Try.f25) rfl rfl (by decide) ?_
  have hR := RefRNum_sl h8 (by omega)
  cases hp : pnum 0 0 zs with
  | none =>
    rw [hp] at hR
    have hDT : decN zs = none := by unfold decN; rw [hp]
    simp -implicitDefEqProofs (maxSteps := 4000000) (disch := omega) only [go_sem, ↓reduceIte, reduceCtorEq, reduceDIte, Nat.reduceAdd, Nat.reduceMul, Nat.reduceSub, Nat.reduceBEq, Nat.reduceBNe, Nat.reduceBeqDiff, Nat.reduceLT, Nat.reduceLeDiff, Nat.reduceEqDiff, Nat.reduceDiv, Nat.reduceMod, Nat.reducePow, Int.reduceLT, Int.reduceLE, Int.reduceGT, Int.reduceGE, Int.reduceEq, Int.reduceNe, Int.reduceToNat, Int.reduceNeg, Int.reducePow, Int.reduceAdd, Int.reduceMul, Int.reduceSub, Int.reduceBEq, Int.reduceMod, Int.reduceDiv, Int.reduceNatCast, Nat.min_def, Int.add_sub_cancel, Int.add_zero, Nat.add_zero, Nat.zero_add, Int.zero_add, Int.natCast_add, Int.natCast_mul, List.length_append, List.length_take, List.length_drop, List.length_replicate, List.length_set, tdv, tmd, fdv, s64, u64, u8m, ilt_t, ilt_f, ile_t, ile_f, ieq_t, ieq_f, nlt_t, nlt_f, nle_t, nle_f, neq_t, neq_f, Int.toNat_natCast, hR, refN, hDT, resD]
  | some x =>
    obtain ⟨v, r⟩ := x
    rw [hp] at hR
    have hv0 := pnum_nonneg hp (by decide)
    have hrl := pnum_len hp
    have hr8 := pnum_R8 hp h8
    obtain ⟨n, rfl⟩ := Int.eq_ofNat_of_zero_le hv0
    by_cases hn : 65535 < n
    · have hDT : decN zs = none := by unfold decN; rw [hp]; dsimp only; rw [if_pos (by omega)]
      simp -implicitDefEqProofs (maxSteps := 4000000) (disch := omega) only [go_sem, ↓reduceIte, reduceCtorEq, reduceDIte, Nat.reduceAdd, Nat.reduceMul, Nat.reduceSub, Nat.reduceBEq, Nat.reduceBNe, Nat.reduceBeqDiff, Nat.reduceLT, Nat.reduceLeDiff, Nat.reduceEqDiff, Nat.reduceDiv, Nat.reduceMod, Nat.reducePow, Int.reduceLT, Int.reduceLE, Int.reduceGT, Int.reduceGE, Int.reduceEq, Int.reduceNe, Int.reduceToNat, Int.reduceNeg, Int.reducePow, Int.reduceAdd, Int.reduceMul, Int.reduceSub, Int.reduceBEq, Int.reduceMod, Int.reduceDiv, Int.reduceNatCast, Nat.min_def, Int.add_sub_cancel, Int.add_zero, Nat.add_zero, Nat.zero_add, Int.zero_add, Int.natCast_add, Int.natCast_mul, List.length_append, List.length_take, List.length_drop, List.length_replicate, List.length_set, tdv, tmd, fdv, s64, u64, u8m, ilt_t, ilt_f, ile_t, ile_f, ieq_t, ieq_f, nlt_t, nlt_f, nle_t, nle_f, neq_t, neq_f, Int.toNat_natCast, hR, refN, hDT, resD]
    · cases r with
      | nil =>
        have hDT : decN zs = none := by unfold decN; rw [hp]; dsimp only; rw [if_neg (by omega)]
        simp -implicitDefEqProofs (maxSteps := 4000000) (disch := omega) only [go_sem, ↓reduceIte, reduceCtorEq, reduceDIte, Nat.reduceAdd, Nat.reduceMul, Nat.reduceSub, Nat.reduceBEq, Nat.reduceBNe, Nat.reduceBeqDiff, Nat.reduceLT, Nat.reduceLeDiff, Nat.reduceEqDiff, Nat.reduceDiv, Nat.reduceMod, Nat.reducePow, Int.reduceLT, Int.reduceLE, Int.reduceGT, Int.reduceGE, Int.reduceEq, Int.reduceNe, Int.reduceToNat, Int.reduceNeg, Int.reducePow, Int.reduceAdd, Int.reduceMul, Int.reduceSub, Int.reduceBEq, Int.reduceMod, Int.reduceDiv, Int.reduceNatCast, Nat.min_def, Int.add_sub_cancel, Int.add_zero, Nat.add_zero, Nat.zero_add, Int.zero_add, Int.natCast_add, Int.natCast_mul, List.length_append, List.length_take, List.length_drop, List.length_replicate, List.length_set, tdv, tmd, fdv, s64, u64, u8m, ilt_t, ilt_f, ile_t, ile_f, ieq_t, ieq_f, nlt_t, nlt_f, nle_t, nle_f, neq_t, neq_f, Int.toNat_natCast, hR, refN, hDT, resD]
      | cons t b =>
        have ht := hr8 t List.mem_cons_self
        have hb8 : R8 b := fun z hz => hr8 z (List.mem_cons_of_mem _ hz)
        have hlen : (t :: b).length = b.length + 1 := rfl
        rw [hlen] at hrl
        by_cases ht2 : 2 < t
        · have hDT : decN zs = none := by
            unfold decN; rw [hp]; dsimp only
            rw [if_neg (by omega), tellN, if_neg (by omega), if_neg (by omega), if_neg (by omega)]
          simp -implicitDefEqProofs (maxSteps := 4000000) (disch := omega) only [go_sem, ↓reduceIte, reduceCtorEq, reduceDIte, Nat.reduceAdd, Nat.reduceMul, Nat.reduceSub, Nat.reduceBEq, Nat.reduceBNe, Nat.reduceBeqDiff, Nat.reduceLT, Nat.reduceLeDiff, Nat.reduceEqDiff, Nat.reduceDiv, Nat.reduceMod, Nat.reducePow, Int.reduceLT, Int.reduceLE, Int.reduceGT, Int.reduceGE, Int.reduceEq, Int.reduceNe, Int.reduceToNat, Int.reduceNeg, Int.reducePow, Int.reduceAdd, Int.reduceMul, Int.reduceSub, Int.reduceBEq, Int.reduceMod, Int.reduceDiv, Int.reduceNatCast, Nat.min_def, Int.add_sub_cancel, Int.add_zero, Nat.add_zero, Nat.zero_add, Int.zero_add, Int.natCast_add, Int.natCast_mul, List.length_append, List.length_take, List.length_drop, List.length_replicate, List.length_set, tdv, tmd, fdv, s64, u64, u8m, ilt_t, ilt_f, ile_t, ile_f, ieq_t, ieq_f, nlt_t, nlt_f, nle_t, nle_f, neq_t, neq_f, Int.toNat_natCast, hR, refN, hDT, resD]
        · by_cases hs : t = 2 ∧ b.length < (n + 7) / 8
          · obtain ⟨rfl, hs⟩ := hs
            have hDT : decN zs = none := by
              unfold decN; rw [hp]; dsimp only
              rw [if_neg (by omega), tellN, if_neg (by omega), if_neg (by omega), if_pos rfl, mixedN, if_pos (by rw [Int.toNat_natCast]; exact hs)]
            simp -implicitDefEqProofs (maxSteps := 4000000) (disch := omega) only [go_sem, ↓reduceIte, reduceCtorEq, reduceDIte, Nat.reduceAdd, Nat.reduceMul, Nat.reduceSub, Nat.reduceBEq, Nat.reduceBNe, Nat.reduceBeqDiff, Nat.reduceLT, Nat.reduceLeDiff, Nat.reduceEqDiff, Nat.reduceDiv, Nat.reduceMod, Nat.reducePow, Int.reduceLT, Int.reduceLE, Int.reduceGT, Int.reduceGE, Int.reduceEq, Int.reduceNe, Int.reduceToNat, Int.reduceNeg, Int.reducePow, Int.reduceAdd, Int.reduceMul, Int.reduceSub, Int.reduceBEq, Int.reduceMod, Int.reduceDiv, Int.reduceNatCast, Nat.min_def, Int.add_sub_cancel, Int.add_zero, Nat.add_zero, Nat.zero_add, Int.zero_add, Int.natCast_add, Int.natCast_mul, List.length_append, List.length_take, List.length_drop, List.length_replicate, List.length_set, tdv, tmd, fdv, s64, u64, u8m, ilt_t, ilt_f, ile_t, ile_f, ieq_t, ieq_f, nlt_t, nlt_f, nle_t, nle_f, neq_t, neq_f, Int.toNat_natCast, hR, refN, hDT, resD, tdiv8]
            change _ = true; kernel_rfl
          · have hDT := dec_ref h8 hp (by omega) ht.1 (by omega) (by omega)
            have hL : (bitsR t b n).length ≤ 65535 := by rw [bitsR_length]; omega
            have hE := RefNulls_spec (l := bitsR t b n) hL
            have hE8 := encN_R8 (bitsR t b n) hL
            have hEl := encN_len (bitsR t b n) hL
            have hq := toU8_beq hE8 (h8.take (encN (bitsR t b n)).length)
            have hbl : (bitsR t b n).length = n := bitsR_length ..
            rcases (show t = 0 ∨ t = 1 ∨ t = 2 by omega) with rfl | rfl | rfl
            · simp -implicitDefEqProofs (maxSteps := 4000000) (disch := omega) only [go_sem, ↓reduceIte, reduceCtorEq, reduceDIte, Nat.reduceAdd, Nat.reduceMul, Nat.reduceSub, Nat.reduceBEq, Nat.reduceBNe, Nat.reduceBeqDiff, Nat.reduceLT, Nat.reduceLeDiff, Nat.reduceEqDiff, Nat.reduceDiv, Nat.reduceMod, Nat.reducePow, Int.reduceLT, Int.reduceLE, Int.reduceGT, Int.reduceGE, Int.reduceEq, Int.reduceNe, Int.reduceToNat, Int.reduceNeg, Int.reducePow, Int.reduceAdd, Int.reduceMul, Int.reduceSub, Int.reduceBEq, Int.reduceMod, Int.reduceDiv, Int.reduceNatCast, Nat.min_def, Int.add_sub_cancel, Int.add_zero, Nat.add_zero, Nat.zero_add, Int.zero_add, Int.natCast_add, Int.natCast_mul, List.length_append, List.length_take, List.length_drop, List.length_replicate, List.length_set, tdv, tmd, fdv, s64, u64, u8m, ilt_t, ilt_f, ile_t, ile_f, ieq_t, ieq_f, nlt_t, nlt_f, nle_t, nle_f, neq_t, neq_f, Int.toNat_natCast, hR, refN]
              refine ⟨by change _ = true; kernel_rfl, ?_⟩
              refine runs_for (fun i : Nat => (⟨[(0, .sl 1 (ints .u8 zs)), (6, .int .u64 n), (7, .int .u8 0), (8, .sl 1 (ints .u8 b)), (9, .int .i64 (((n : Int) + 7) / 8)), (10, .h 2097792), (11, .int .i64 i)], [(2097792, some ⟨true, .row 4 1 (bools (bitsR 0 b i))⟩)], 1⟩ : St)) n ?_ ?_ ?_
              · simp -implicitDefEqProofs (maxSteps := 4000000) (disch := omega) only [go_sem, ↓reduceIte, reduceCtorEq, reduceDIte, Nat.reduceAdd, Nat.reduceMul, Nat.reduceSub, Nat.reduceBEq, Nat.reduceBNe, Nat.reduceBeqDiff, Nat.reduceLT, Nat.reduceLeDiff, Nat.reduceEqDiff, Nat.reduceDiv, Nat.reduceMod, Nat.reducePow, Int.reduceLT, Int.reduceLE, Int.reduceGT, Int.reduceGE, Int.reduceEq, Int.reduceNe, Int.reduceToNat, Int.reduceNeg, Int.reducePow, Int.reduceAdd, Int.reduceMul, Int.reduceSub, Int.reduceBEq, Int.reduceMod, Int.reduceDiv, Int.reduceNatCast, Nat.min_def, Int.add_sub_cancel, Int.add_zero, Nat.add_zero, Nat.zero_add, Int.zero_add, Int.natCast_add, Int.natCast_mul, List.length_append, List.length_take, List.length_drop, List.length_replicate, List.length_set, tdv, tmd, fdv, s64, u64, u8m, ilt_t, ilt_f, ile_t, ile_f, ieq_t, ieq_f, nlt_t, nlt_f, nle_t, nle_f, neq_t, neq_f, Int.toNat_natCast]
                rfl
              · intro i hi
                have hbi : (bitsR 0 b i).length = i := bitsR_length ..
                have hb2 : (2 : Int) = 0 → ∃ zn : Nat, b[i / 8]? = some (zn : Int) ∧ bitN zn (7 - i % 8) = bitAt b i := fun h => by
                  have hlt : i / 8 < b.length := by omega
                  obtain ⟨z, hz⟩ : ∃ z, b[i / 8]? = some z := ⟨_, List.getElem?_eq_getElem hlt⟩
                  obtain ⟨zn, rfl⟩ := Int.eq_ofNat_of_zero_le (hb8 z (List.mem_of_getElem? hz)).1
                  exact ⟨zn, hz, by rw [bitAt, List.getD_eq_getElem?_getD, hz]; rfl⟩
                have hbl := bitAt_le b i
                clear hDT hE hE8 hEl hq hs hL hR hp hr8 hb8 h8
                first
                  | (obtain ⟨zn, hzn, hbn⟩ := hb2 rfl
                     have hbs := bitstep (zn := zn) (k := i % 8) (by omega)
                     rcases (show bitAt b i = 0 ∨ bitAt b i = 1 by omega) with h01 | h01 <;> simp -implicitDefEqProofs (maxSteps := 4000000) (disch := omega) only [go_sem, ↓reduceIte, reduceCtorEq, reduceDIte, Nat.reduceAdd, Nat.reduceMul, Nat.reduceSub, Nat.reduceBEq, Nat.reduceBNe, Nat.reduceBeqDiff, Nat.reduceLT, Nat.reduceLeDiff, Nat.reduceEqDiff, Nat.reduceDiv, Nat.reduceMod, Nat.reducePow, Int.reduceLT, Int.reduceLE, Int.reduceGT, Int.reduceGE, Int.reduceEq, Int.reduceNe, Int.reduceToNat, Int.reduceNeg, Int.reducePow, Int.reduceAdd, Int.reduceMul, Int.reduceSub, Int.reduceBEq, Int.reduceMod, Int.reduceDiv, Int.reduceNatCast, Nat.min_def, Int.add_sub_cancel, Int.add_zero, Nat.add_zero, Nat.zero_add, Int.zero_add, Int.natCast_add, Int.natCast_mul, List.length_append, List.length_take, List.length_drop, List.length_replicate, List.length_set, tdv, tmd, fdv, s64, u64, u8m, ilt_t, ilt_f, ile_t, ile_f, ieq_t, ieq_f, nlt_t, nlt_f, nle_t, nle_f, neq_t, neq_f, Int.toNat_natCast, bitsR_succ, hbi, (show ((7 : Int) - ((i : Int) % 8)).toNat = 7 - i % 8 from by omega), (show ((i : Int) / 8).toNat = i / 8 from by omega), hzn, fdiv_pow, hbs, hbn, h01])
                  | simp -implicitDefEqProofs (maxSteps := 4000000) (disch := omega) only [go_sem, ↓reduceIte, reduceCtorEq, reduceDIte, Nat.reduceAdd, Nat.reduceMul, Nat.reduceSub, Nat.reduceBEq, Nat.reduceBNe, Nat.reduceBeqDiff, Nat.reduceLT, Nat.reduceLeDiff, Nat.reduceEqDiff, Nat.reduceDiv, Nat.reduceMod, Nat.reducePow, Int.reduceLT, Int.reduceLE, Int.reduceGT, Int.reduceGE, Int.reduceEq, Int.reduceNe, Int.reduceToNat, Int.reduceNeg, Int.reducePow, Int.reduceAdd, Int.reduceMul, Int.reduceSub, Int.reduceBEq, Int.reduceMod, Int.reduceDiv, Int.reduceNatCast, Nat.min_def, Int.add_sub_cancel, Int.add_zero, Nat.add_zero, Nat.zero_add, Int.zero_add, Int.natCast_add, Int.natCast_mul, List.length_append, List.length_take, List.length_drop, List.length_replicate, List.length_set, tdv, tmd, fdv, s64, u64, u8m, ilt_t, ilt_f, ile_t, ile_f, ieq_t, ieq_f, nlt_t, nlt_f, nle_t, nle_f, neq_t, neq_f, Int.toNat_natCast, bitsR_succ, hbi, Bool.or_self, Bool.false_and, Bool.and_false]
              · have hmark : (2 : Int) = 0 → encN (bitsR 0 b n) = zs.take (encN (bitsR 0 b n)).length → ∃ a : Nat, (encN (bitsR 0 b n)).length = a + 1 + (n + 7) / 8 ∧ (encN (bitsR 0 b n))[a]? = some 2 := fun h2 => by
                  first
                  | exact fun h => enc_mark h8 hp h (by omega)
                  | exact absurd h2 (by decide)
                clear hR hp hr8 hb8 hq
                generalize hW : encN (bitsR 0 b n) = W at hE hE8 hEl hDT hmark
                by_cases hA : W.length ≤ zs.length
                · have hEq := toU8_beq hE8 (h8.take W.length)
                  by_cases hB : W = zs.take W.length
                  · rw [if_pos ⟨hA, hB⟩] at hDT
                    have qB := eq_true hB
                    have hcl : (zs.drop W.length).length ≤ 1000000 := by rw [List.length_drop]; omega
                    have ha : ∃ a : Nat, (2 : Int) = 0 → W.length = a + 1 + (n + 7) / 8 ∧ W[a]? = some 2 := by
                      by_cases h2 : (2 : Int) = 0
                      · obtain ⟨a, h⟩ := hmark h2 hB
                        exact ⟨a, fun _ => h⟩
                      · exact ⟨0, fun h => absurd h h2⟩
                    obtain ⟨a, ha⟩ := ha
                    clear hmark hB
                    first
                    | (obtain ⟨ha1, ha2⟩ := ha rfl
                       simp -implicitDefEqProofs (maxSteps := 4000000) (disch := omega) only [go_sem, ↓reduceIte, reduceCtorEq, reduceDIte, Nat.reduceAdd, Nat.reduceMul, Nat.reduceSub, Nat.reduceBEq, Nat.reduceBNe, Nat.reduceBeqDiff, Nat.reduceLT, Nat.reduceLeDiff, Nat.reduceEqDiff, Nat.reduceDiv, Nat.reduceMod, Nat.reducePow, Int.reduceLT, Int.reduceLE, Int.reduceGT, Int.reduceGE, Int.reduceEq, Int.reduceNe, Int.reduceToNat, Int.reduceNeg, Int.reducePow, Int.reduceAdd, Int.reduceMul, Int.reduceSub, Int.reduceBEq, Int.reduceMod, Int.reduceDiv, Int.reduceNatCast, Nat.min_def, Int.add_sub_cancel, Int.add_zero, Nat.add_zero, Nat.zero_add, Int.zero_add, Int.natCast_add, Int.natCast_mul, List.length_append, List.length_take, List.length_drop, List.length_replicate, List.length_set, tdv, tmd, fdv, s64, u64, u8m, ilt_t, ilt_f, ile_t, ile_f, ieq_t, ieq_f, nlt_t, nlt_f, nle_t, nle_f, neq_t, neq_f, Int.toNat_natCast, hE, hEq, qB, hDT, resD, (show ((W.length : Int) - ((n : Int) + 7) / 8 - 1).toNat = a from by omega), ha2]
                       change _ = true
                       kernel_rfl)
                    | (clear ha; simp -implicitDefEqProofs (maxSteps := 4000000) (disch := omega) only [go_sem, ↓reduceIte, reduceCtorEq, reduceDIte, Nat.reduceAdd, Nat.reduceMul, Nat.reduceSub, Nat.reduceBEq, Nat.reduceBNe, Nat.reduceBeqDiff, Nat.reduceLT, Nat.reduceLeDiff, Nat.reduceEqDiff, Nat.reduceDiv, Nat.reduceMod, Nat.reducePow, Int.reduceLT, Int.reduceLE, Int.reduceGT, Int.reduceGE, Int.reduceEq, Int.reduceNe, Int.reduceToNat, Int.reduceNeg, Int.reducePow, Int.reduceAdd, Int.reduceMul, Int.reduceSub, Int.reduceBEq, Int.reduceMod, Int.reduceDiv, Int.reduceNatCast, Nat.min_def, Int.add_sub_cancel, Int.add_zero, Nat.add_zero, Nat.zero_add, Int.zero_add, Int.natCast_add, Int.natCast_mul, List.length_append, List.length_take, List.length_drop, List.length_replicate, List.length_set, tdv, tmd, fdv, s64, u64, u8m, ilt_t, ilt_f, ile_t, ile_f, ieq_t, ieq_f, nlt_t, nlt_f, nle_t, nle_f, neq_t, neq_f, Int.toNat_natCast, hE, hEq, qB, hDT, resD]
                       change _ = true
                       kernel_rfl)
                  · rw [if_neg (fun h => hB h.2)] at hDT
                    simp -implicitDefEqProofs (maxSteps := 4000000) (disch := omega) only [go_sem, ↓reduceIte, reduceCtorEq, reduceDIte, Nat.reduceAdd, Nat.reduceMul, Nat.reduceSub, Nat.reduceBEq, Nat.reduceBNe, Nat.reduceBeqDiff, Nat.reduceLT, Nat.reduceLeDiff, Nat.reduceEqDiff, Nat.reduceDiv, Nat.reduceMod, Nat.reducePow, Int.reduceLT, Int.reduceLE, Int.reduceGT, Int.reduceGE, Int.reduceEq, Int.reduceNe, Int.reduceToNat, Int.reduceNeg, Int.reducePow, Int.reduceAdd, Int.reduceMul, Int.reduceSub, Int.reduceBEq, Int.reduceMod, Int.reduceDiv, Int.reduceNatCast, Nat.min_def, Int.add_sub_cancel, Int.add_zero, Nat.add_zero, Nat.zero_add, Int.zero_add, Int.natCast_add, Int.natCast_mul, List.length_append, List.length_take, List.length_drop, List.length_replicate, List.length_set, tdv, tmd, fdv, s64, u64, u8m, ilt_t, ilt_f, ile_t, ile_f, ieq_t, ieq_f, nlt_t, nlt_f, nle_t, nle_f, neq_t, neq_f, Int.toNat_natCast, hE, hEq, hB, hDT, resD]
                    change _ = true; kernel_rfl
                · rw [if_neg (fun h => hA h.1)] at hDT
                  simp -implicitDefEqProofs (maxSteps := 4000000) (disch := omega) only [go_sem, ↓reduceIte, reduceCtorEq, reduceDIte, Nat.reduceAdd, Nat.reduceMul, Nat.reduceSub, Nat.reduceBEq, Nat.reduceBNe, Nat.reduceBeqDiff, Nat.reduceLT, Nat.reduceLeDiff, Nat.reduceEqDiff, Nat.reduceDiv, Nat.reduceMod, Nat.reducePow, Int.reduceLT, Int.reduceLE, Int.reduceGT, Int.reduceGE, Int.reduceEq, Int.reduceNe, Int.reduceToNat, Int.reduceNeg, Int.reducePow, Int.reduceAdd, Int.reduceMul, Int.reduceSub, Int.reduceBEq, Int.reduceMod, Int.reduceDiv, Int.reduceNatCast, Nat.min_def, Int.add_sub_cancel, Int.add_zero, Nat.add_zero, Nat.zero_add, Int.zero_add, Int.natCast_add, Int.natCast_mul, List.length_append, List.length_take, List.length_drop, List.length_replicate, List.length_set, tdv, tmd, fdv, s64, u64, u8m, ilt_t, ilt_f, ile_t, ile_f, ieq_t, ieq_f, nlt_t, nlt_f, nle_t, nle_f, neq_t, neq_f, Int.toNat_natCast, hE, hDT, resD]
                  change _ = true; kernel_rfl
            · simp -implicitDefEqProofs (maxSteps := 4000000) (disch := omega) only [go_sem, ↓reduceIte, reduceCtorEq, reduceDIte, Nat.reduceAdd, Nat.reduceMul, Nat.reduceSub, Nat.reduceBEq, Nat.reduceBNe, Nat.reduceBeqDiff, Nat.reduceLT, Nat.reduceLeDiff, Nat.reduceEqDiff, Nat.reduceDiv, Nat.reduceMod, Nat.reducePow, Int.reduceLT, Int.reduceLE, Int.reduceGT, Int.reduceGE, Int.reduceEq, Int.reduceNe, Int.reduceToNat, Int.reduceNeg, Int.reducePow, Int.reduceAdd, Int.reduceMul, Int.reduceSub, Int.reduceBEq, Int.reduceMod, Int.reduceDiv, Int.reduceNatCast, Nat.min_def, Int.add_sub_cancel, Int.add_zero, Nat.add_zero, Nat.zero_add, Int.zero_add, Int.natCast_add, Int.natCast_mul, List.length_append, List.length_take, List.length_drop, List.length_replicate, List.length_set, tdv, tmd, fdv, s64, u64, u8m, ilt_t, ilt_f, ile_t, ile_f, ieq_t, ieq_f, nlt_t, nlt_f, nle_t, nle_f, neq_t, neq_f, Int.toNat_natCast, hR, refN]
              refine ⟨by change _ = true; kernel_rfl, ?_⟩
              refine runs_for (fun i : Nat => (⟨[(0, .sl 1 (ints .u8 zs)), (6, .int .u64 n), (7, .int .u8 1), (8, .sl 1 (ints .u8 b)), (9, .int .i64 (((n : Int) + 7) / 8)), (10, .h 2097792), (11, .int .i64 i)], [(2097792, some ⟨true, .row 4 1 (bools (bitsR 1 b i))⟩)], 1⟩ : St)) n ?_ ?_ ?_
              · simp -implicitDefEqProofs (maxSteps := 4000000) (disch := omega) only [go_sem, ↓reduceIte, reduceCtorEq, reduceDIte, Nat.reduceAdd, Nat.reduceMul, Nat.reduceSub, Nat.reduceBEq, Nat.reduceBNe, Nat.reduceBeqDiff, Nat.reduceLT, Nat.reduceLeDiff, Nat.reduceEqDiff, Nat.reduceDiv, Nat.reduceMod, Nat.reducePow, Int.reduceLT, Int.reduceLE, Int.reduceGT, Int.reduceGE, Int.reduceEq, Int.reduceNe, Int.reduceToNat, Int.reduceNeg, Int.reducePow, Int.reduceAdd, Int.reduceMul, Int.reduceSub, Int.reduceBEq, Int.reduceMod, Int.reduceDiv, Int.reduceNatCast, Nat.min_def, Int.add_sub_cancel, Int.add_zero, Nat.add_zero, Nat.zero_add, Int.zero_add, Int.natCast_add, Int.natCast_mul, List.length_append, List.length_take, List.length_drop, List.length_replicate, List.length_set, tdv, tmd, fdv, s64, u64, u8m, ilt_t, ilt_f, ile_t, ile_f, ieq_t, ieq_f, nlt_t, nlt_f, nle_t, nle_f, neq_t, neq_f, Int.toNat_natCast]
                rfl
              · intro i hi
                have hbi : (bitsR 1 b i).length = i := bitsR_length ..
                have hb2 : (2 : Int) = 1 → ∃ zn : Nat, b[i / 8]? = some (zn : Int) ∧ bitN zn (7 - i % 8) = bitAt b i := fun h => by
                  have hlt : i / 8 < b.length := by omega
                  obtain ⟨z, hz⟩ : ∃ z, b[i / 8]? = some z := ⟨_, List.getElem?_eq_getElem hlt⟩
                  obtain ⟨zn, rfl⟩ := Int.eq_ofNat_of_zero_le (hb8 z (List.mem_of_getElem? hz)).1
                  exact ⟨zn, hz, by rw [bitAt, List.getD_eq_getElem?_getD, hz]; rfl⟩
                have hbl := bitAt_le b i
                clear hDT hE hE8 hEl hq hs hL hR hp hr8 hb8 h8
                first
                  | (obtain ⟨zn, hzn, hbn⟩ := hb2 rfl
                     have hbs := bitstep (zn := zn) (k := i % 8) (by omega)
                     rcases (show bitAt b i = 0 ∨ bitAt b i = 1 by omega) with h01 | h01 <;> simp -implicitDefEqProofs (maxSteps := 4000000) (disch := omega) only [go_sem, ↓reduceIte, reduceCtorEq, reduceDIte, Nat.reduceAdd, Nat.reduceMul, Nat.reduceSub, Nat.reduceBEq, Nat.reduceBNe, Nat.reduceBeqDiff, Nat.reduceLT, Nat.reduceLeDiff, Nat.reduceEqDiff, Nat.reduceDiv, Nat.reduceMod, Nat.reducePow, Int.reduceLT, Int.reduceLE, Int.reduceGT, Int.reduceGE, Int.reduceEq, Int.reduceNe, Int.reduceToNat, Int.reduceNeg, Int.reducePow, Int.reduceAdd, Int.reduceMul, Int.reduceSub, Int.reduceBEq, Int.reduceMod, Int.reduceDiv, Int.reduceNatCast, Nat.min_def, Int.add_sub_cancel, Int.add_zero, Nat.add_zero, Nat.zero_add, Int.zero_add, Int.natCast_add, Int.natCast_mul, List.length_append, List.length_take, List.length_drop, List.length_replicate, List.length_set, tdv, tmd, fdv, s64, u64, u8m, ilt_t, ilt_f, ile_t, ile_f, ieq_t, ieq_f, nlt_t, nlt_f, nle_t, nle_f, neq_t, neq_f, Int.toNat_natCast, bitsR_succ, hbi, (show ((7 : Int) - ((i : Int) % 8)).toNat = 7 - i % 8 from by omega), (show ((i : Int) / 8).toNat = i / 8 from by omega), hzn, fdiv_pow, hbs, hbn, h01])
                  | simp -implicitDefEqProofs (maxSteps := 4000000) (disch := omega) only [go_sem, ↓reduceIte, reduceCtorEq, reduceDIte, Nat.reduceAdd, Nat.reduceMul, Nat.reduceSub, Nat.reduceBEq, Nat.reduceBNe, Nat.reduceBeqDiff, Nat.reduceLT, Nat.reduceLeDiff, Nat.reduceEqDiff, Nat.reduceDiv, Nat.reduceMod, Nat.reducePow, Int.reduceLT, Int.reduceLE, Int.reduceGT, Int.reduceGE, Int.reduceEq, Int.reduceNe, Int.reduceToNat, Int.reduceNeg, Int.reducePow, Int.reduceAdd, Int.reduceMul, Int.reduceSub, Int.reduceBEq, Int.reduceMod, Int.reduceDiv, Int.reduceNatCast, Nat.min_def, Int.add_sub_cancel, Int.add_zero, Nat.add_zero, Nat.zero_add, Int.zero_add, Int.natCast_add, Int.natCast_mul, List.length_append, List.length_take, List.length_drop, List.length_replicate, List.length_set, tdv, tmd, fdv, s64, u64, u8m, ilt_t, ilt_f, ile_t, ile_f, ieq_t, ieq_f, nlt_t, nlt_f, nle_t, nle_f, neq_t, neq_f, Int.toNat_natCast, bitsR_succ, hbi, Bool.or_self, Bool.false_and, Bool.and_false]
              · have hmark : (2 : Int) = 1 → encN (bitsR 1 b n) = zs.take (encN (bitsR 1 b n)).length → ∃ a : Nat, (encN (bitsR 1 b n)).length = a + 1 + (n + 7) / 8 ∧ (encN (bitsR 1 b n))[a]? = some 2 := fun h2 => by
                  first
                  | exact fun h => enc_mark h8 hp h (by omega)
                  | exact absurd h2 (by decide)
                clear hR hp hr8 hb8 hq
                generalize hW : encN (bitsR 1 b n) = W at hE hE8 hEl hDT hmark
                by_cases hA : W.length ≤ zs.length
                · have hEq := toU8_beq hE8 (h8.take W.length)
                  by_cases hB : W = zs.take W.length
                  · rw [if_pos ⟨hA, hB⟩] at hDT
                    have qB := eq_true hB
                    have hcl : (zs.drop W.length).length ≤ 1000000 := by rw [List.length_drop]; omega
                    have ha : ∃ a : Nat, (2 : Int) = 1 → W.length = a + 1 + (n + 7) / 8 ∧ W[a]? = some 2 := by
                      by_cases h2 : (2 : Int) = 1
                      · obtain ⟨a, h⟩ := hmark h2 hB
                        exact ⟨a, fun _ => h⟩
                      · exact ⟨0, fun h => absurd h h2⟩
                    obtain ⟨a, ha⟩ := ha
                    clear hmark hB
                    first
                    | (obtain ⟨ha1, ha2⟩ := ha rfl
                       simp -implicitDefEqProofs (maxSteps := 4000000) (disch := omega) only [go_sem, ↓reduceIte, reduceCtorEq, reduceDIte, Nat.reduceAdd, Nat.reduceMul, Nat.reduceSub, Nat.reduceBEq, Nat.reduceBNe, Nat.reduceBeqDiff, Nat.reduceLT, Nat.reduceLeDiff, Nat.reduceEqDiff, Nat.reduceDiv, Nat.reduceMod, Nat.reducePow, Int.reduceLT, Int.reduceLE, Int.reduceGT, Int.reduceGE, Int.reduceEq, Int.reduceNe, Int.reduceToNat, Int.reduceNeg, Int.reducePow, Int.reduceAdd, Int.reduceMul, Int.reduceSub, Int.reduceBEq, Int.reduceMod, Int.reduceDiv, Int.reduceNatCast, Nat.min_def, Int.add_sub_cancel, Int.add_zero, Nat.add_zero, Nat.zero_add, Int.zero_add, Int.natCast_add, Int.natCast_mul, List.length_append, List.length_take, List.length_drop, List.length_replicate, List.length_set, tdv, tmd, fdv, s64, u64, u8m, ilt_t, ilt_f, ile_t, ile_f, ieq_t, ieq_f, nlt_t, nlt_f, nle_t, nle_f, neq_t, neq_f, Int.toNat_natCast, hE, hEq, qB, hDT, resD, (show ((W.length : Int) - ((n : Int) + 7) / 8 - 1).toNat = a from by omega), ha2]
                       change _ = true
                       kernel_rfl)
                    | (clear ha; simp -implicitDefEqProofs (maxSteps := 4000000) (disch := omega) only [go_sem, ↓reduceIte, reduceCtorEq, reduceDIte, Nat.reduceAdd, Nat.reduceMul, Nat.reduceSub, Nat.reduceBEq, Nat.reduceBNe, Nat.reduceBeqDiff, Nat.reduceLT, Nat.reduceLeDiff, Nat.reduceEqDiff, Nat.reduceDiv, Nat.reduceMod, Nat.reducePow, Int.reduceLT, Int.reduceLE, Int.reduceGT, Int.reduceGE, Int.reduceEq, Int.reduceNe, Int.reduceToNat, Int.reduceNeg, Int.reducePow, Int.reduceAdd, Int.reduceMul, Int.reduceSub, Int.reduceBEq, Int.reduceMod, Int.reduceDiv, Int.reduceNatCast, Nat.min_def, Int.add_sub_cancel, Int.add_zero, Nat.add_zero, Nat.zero_add, Int.zero_add, Int.natCast_add, Int.natCast_mul, List.length_append, List.length_take, List.length_drop, List.length_replicate, List.length_set, tdv, tmd, fdv, s64, u64, u8m, ilt_t, ilt_f, ile_t, ile_f, ieq_t, ieq_f, nlt_t, nlt_f, nle_t, nle_f, neq_t, neq_f, Int.toNat_natCast, hE, hEq, qB, hDT, resD]
                       change _ = true
                       kernel_rfl)
                  · rw [if_neg (fun h => hB h.2)] at hDT
                    simp -implicitDefEqProofs (maxSteps := 4000000) (disch := omega) only [go_sem, ↓reduceIte, reduceCtorEq, reduceDIte, Nat.reduceAdd, Nat.reduceMul, Nat.reduceSub, Nat.reduceBEq, Nat.reduceBNe, Nat.reduceBeqDiff, Nat.reduceLT, Nat.reduceLeDiff, Nat.reduceEqDiff, Nat.reduceDiv, Nat.reduceMod, Nat.reducePow, Int.reduceLT, Int.reduceLE, Int.reduceGT, Int.reduceGE, Int.reduceEq, Int.reduceNe, Int.reduceToNat, Int.reduceNeg, Int.reducePow, Int.reduceAdd, Int.reduceMul, Int.reduceSub, Int.reduceBEq, Int.reduceMod, Int.reduceDiv, Int.reduceNatCast, Nat.min_def, Int.add_sub_cancel, Int.add_zero, Nat.add_zero, Nat.zero_add, Int.zero_add, Int.natCast_add, Int.natCast_mul, List.length_append, List.length_take, List.length_drop, List.length_replicate, List.length_set, tdv, tmd, fdv, s64, u64, u8m, ilt_t, ilt_f, ile_t, ile_f, ieq_t, ieq_f, nlt_t, nlt_f, nle_t, nle_f, neq_t, neq_f, Int.toNat_natCast, hE, hEq, hB, hDT, resD]
                    change _ = true; kernel_rfl
                · rw [if_neg (fun h => hA h.1)] at hDT
                  simp -implicitDefEqProofs (maxSteps := 4000000) (disch := omega) only [go_sem, ↓reduceIte, reduceCtorEq, reduceDIte, Nat.reduceAdd, Nat.reduceMul, Nat.reduceSub, Nat.reduceBEq, Nat.reduceBNe, Nat.reduceBeqDiff, Nat.reduceLT, Nat.reduceLeDiff, Nat.reduceEqDiff, Nat.reduceDiv, Nat.reduceMod, Nat.reducePow, Int.reduceLT, Int.reduceLE, Int.reduceGT, Int.reduceGE, Int.reduceEq, Int.reduceNe, Int.reduceToNat, Int.reduceNeg, Int.reducePow, Int.reduceAdd, Int.reduceMul, Int.reduceSub, Int.reduceBEq, Int.reduceMod, Int.reduceDiv, Int.reduceNatCast, Nat.min_def, Int.add_sub_cancel, Int.add_zero, Nat.add_zero, Nat.zero_add, Int.zero_add, Int.natCast_add, Int.natCast_mul, List.length_append, List.length_take, List.length_drop, List.length_replicate, List.length_set, tdv, tmd, fdv, s64, u64, u8m, ilt_t, ilt_f, ile_t, ile_f, ieq_t, ieq_f, nlt_t, nlt_f, nle_t, nle_f, neq_t, neq_f, Int.toNat_natCast, hE, hDT, resD]
                  change _ = true; kernel_rfl
            · simp -implicitDefEqProofs (maxSteps := 4000000) (disch := omega) only [go_sem, ↓reduceIte, reduceCtorEq, reduceDIte, Nat.reduceAdd, Nat.reduceMul, Nat.reduceSub, Nat.reduceBEq, Nat.reduceBNe, Nat.reduceBeqDiff, Nat.reduceLT, Nat.reduceLeDiff, Nat.reduceEqDiff, Nat.reduceDiv, Nat.reduceMod, Nat.reducePow, Int.reduceLT, Int.reduceLE, Int.reduceGT, Int.reduceGE, Int.reduceEq, Int.reduceNe, Int.reduceToNat, Int.reduceNeg, Int.reducePow, Int.reduceAdd, Int.reduceMul, Int.reduceSub, Int.reduceBEq, Int.reduceMod, Int.reduceDiv, Int.reduceNatCast, Nat.min_def, Int.add_sub_cancel, Int.add_zero, Nat.add_zero, Nat.zero_add, Int.zero_add, Int.natCast_add, Int.natCast_mul, List.length_append, List.length_take, List.length_drop, List.length_replicate, List.length_set, tdv, tmd, fdv, s64, u64, u8m, ilt_t, ilt_f, ile_t, ile_f, ieq_t, ieq_f, nlt_t, nlt_f, nle_t, nle_f, neq_t, neq_f, Int.toNat_natCast, hR, refN]
              refine ⟨by change _ = true; kernel_rfl, ?_⟩
              refine runs_for (fun i : Nat => (⟨[(0, .sl 1 (ints .u8 zs)), (6, .int .u64 n), (7, .int .u8 2), (8, .sl 1 (ints .u8 b)), (9, .int .i64 (((n : Int) + 7) / 8)), (10, .h 2097792), (11, .int .i64 i)], [(2097792, some ⟨true, .row 4 1 (bools (bitsR 2 b i))⟩)], 1⟩ : St)) n ?_ ?_ ?_
              · simp -implicitDefEqProofs (maxSteps := 4000000) (disch := omega) only [go_sem, ↓reduceIte, reduceCtorEq, reduceDIte, Nat.reduceAdd, Nat.reduceMul, Nat.reduceSub, Nat.reduceBEq, Nat.reduceBNe, Nat.reduceBeqDiff, Nat.reduceLT, Nat.reduceLeDiff, Nat.reduceEqDiff, Nat.reduceDiv, Nat.reduceMod, Nat.reducePow, Int.reduceLT, Int.reduceLE, Int.reduceGT, Int.reduceGE, Int.reduceEq, Int.reduceNe, Int.reduceToNat, Int.reduceNeg, Int.reducePow, Int.reduceAdd, Int.reduceMul, Int.reduceSub, Int.reduceBEq, Int.reduceMod, Int.reduceDiv, Int.reduceNatCast, Nat.min_def, Int.add_sub_cancel, Int.add_zero, Nat.add_zero, Nat.zero_add, Int.zero_add, Int.natCast_add, Int.natCast_mul, List.length_append, List.length_take, List.length_drop, List.length_replicate, List.length_set, tdv, tmd, fdv, s64, u64, u8m, ilt_t, ilt_f, ile_t, ile_f, ieq_t, ieq_f, nlt_t, nlt_f, nle_t, nle_f, neq_t, neq_f, Int.toNat_natCast]
                rfl
              · intro i hi
                have hbi : (bitsR 2 b i).length = i := bitsR_length ..
                have hb2 : (2 : Int) = 2 → ∃ zn : Nat, b[i / 8]? = some (zn : Int) ∧ bitN zn (7 - i % 8) = bitAt b i := fun h => by
                  have hlt : i / 8 < b.length := by omega
                  obtain ⟨z, hz⟩ : ∃ z, b[i / 8]? = some z := ⟨_, List.getElem?_eq_getElem hlt⟩
                  obtain ⟨zn, rfl⟩ := Int.eq_ofNat_of_zero_le (hb8 z (List.mem_of_getElem? hz)).1
                  exact ⟨zn, hz, by rw [bitAt, List.getD_eq_getElem?_getD, hz]; rfl⟩
                have hbl := bitAt_le b i
                clear hDT hE hE8 hEl hq hs hL hR hp hr8 hb8 h8
                first
                  | (obtain ⟨zn, hzn, hbn⟩ := hb2 rfl
                     have hbs := bitstep (zn := zn) (k := i % 8) (by omega)
                     rcases (show bitAt b i = 0 ∨ bitAt b i = 1 by omega) with h01 | h01 <;> simp -implicitDefEqProofs (maxSteps := 4000000) (disch := omega) only [go_sem, ↓reduceIte, reduceCtorEq, reduceDIte, Nat.reduceAdd, Nat.reduceMul, Nat.reduceSub, Nat.reduceBEq, Nat.reduceBNe, Nat.reduceBeqDiff, Nat.reduceLT, Nat.reduceLeDiff, Nat.reduceEqDiff, Nat.reduceDiv, Nat.reduceMod, Nat.reducePow, Int.reduceLT, Int.reduceLE, Int.reduceGT, Int.reduceGE, Int.reduceEq, Int.reduceNe, Int.reduceToNat, Int.reduceNeg, Int.reducePow, Int.reduceAdd, Int.reduceMul, Int.reduceSub, Int.reduceBEq, Int.reduceMod, Int.reduceDiv, Int.reduceNatCast, Nat.min_def, Int.add_sub_cancel, Int.add_zero, Nat.add_zero, Nat.zero_add, Int.zero_add, Int.natCast_add, Int.natCast_mul, List.length_append, List.length_take, List.length_drop, List.length_replicate, List.length_set, tdv, tmd, fdv, s64, u64, u8m, ilt_t, ilt_f, ile_t, ile_f, ieq_t, ieq_f, nlt_t, nlt_f, nle_t, nle_f, neq_t, neq_f, Int.toNat_natCast, bitsR_succ, hbi, (show ((7 : Int) - ((i : Int) % 8)).toNat = 7 - i % 8 from by omega), (show ((i : Int) / 8).toNat = i / 8 from by omega), hzn, fdiv_pow, hbs, hbn, h01])
                  | simp -implicitDefEqProofs (maxSteps := 4000000) (disch := omega) only [go_sem, ↓reduceIte, reduceCtorEq, reduceDIte, Nat.reduceAdd, Nat.reduceMul, Nat.reduceSub, Nat.reduceBEq, Nat.reduceBNe, Nat.reduceBeqDiff, Nat.reduceLT, Nat.reduceLeDiff, Nat.reduceEqDiff, Nat.reduceDiv, Nat.reduceMod, Nat.reducePow, Int.reduceLT, Int.reduceLE, Int.reduceGT, Int.reduceGE, Int.reduceEq, Int.reduceNe, Int.reduceToNat, Int.reduceNeg, Int.reducePow, Int.reduceAdd, Int.reduceMul, Int.reduceSub, Int.reduceBEq, Int.reduceMod, Int.reduceDiv, Int.reduceNatCast, Nat.min_def, Int.add_sub_cancel, Int.add_zero, Nat.add_zero, Nat.zero_add, Int.zero_add, Int.natCast_add, Int.natCast_mul, List.length_append, List.length_take, List.length_drop, List.length_replicate, List.length_set, tdv, tmd, fdv, s64, u64, u8m, ilt_t, ilt_f, ile_t, ile_f, ieq_t, ieq_f, nlt_t, nlt_f, nle_t, nle_f, neq_t, neq_f, Int.toNat_natCast, bitsR_succ, hbi, Bool.or_self, Bool.false_and, Bool.and_false]
              · have hmark : (2 : Int) = 2 → encN (bitsR 2 b n) = zs.take (encN (bitsR 2 b n)).length → ∃ a : Nat, (encN (bitsR 2 b n)).length = a + 1 + (n + 7) / 8 ∧ (encN (bitsR 2 b n))[a]? = some 2 := fun h2 => by
                  first
                  | exact fun h => enc_mark h8 hp h (by omega)
                  | exact absurd h2 (by decide)
                clear hR hp hr8 hb8 hq
                generalize hW : encN (bitsR 2 b n) = W at hE hE8 hEl hDT hmark
                by_cases hA : W.length ≤ zs.length
                · have hEq := toU8_beq hE8 (h8.take W.length)
                  by_cases hB : W = zs.take W.length
                  · rw [if_pos ⟨hA, hB⟩] at hDT
                    have qB := eq_true hB
                    have hcl : (zs.drop W.length).length ≤ 1000000 := by rw [List.length_drop]; omega
                    have ha : ∃ a : Nat, (2 : Int) = 2 → W.length = a + 1 + (n + 7) / 8 ∧ W[a]? = some 2 := by
                      by_cases h2 : (2 : Int) = 2
                      · obtain ⟨a, h⟩ := hmark h2 hB
                        exact ⟨a, fun _ => h⟩
                      · exact ⟨0, fun h => absurd h h2⟩
                    obtain ⟨a, ha⟩ := ha
                    clear hmark hB
                    first
                    | (obtain ⟨ha1, ha2⟩ := ha rfl
                       simp -implicitDefEqProofs (maxSteps := 4000000) (disch := omega) only [go_sem, ↓reduceIte, reduceCtorEq, reduceDIte, Nat.reduceAdd, Nat.reduceMul, Nat.reduceSub, Nat.reduceBEq, Nat.reduceBNe, Nat.reduceBeqDiff, Nat.reduceLT, Nat.reduceLeDiff, Nat.reduceEqDiff, Nat.reduceDiv, Nat.reduceMod, Nat.reducePow, Int.reduceLT, Int.reduceLE, Int.reduceGT, Int.reduceGE, Int.reduceEq, Int.reduceNe, Int.reduceToNat, Int.reduceNeg, Int.reducePow, Int.reduceAdd, Int.reduceMul, Int.reduceSub, Int.reduceBEq, Int.reduceMod, Int.reduceDiv, Int.reduceNatCast, Nat.min_def, Int.add_sub_cancel, Int.add_zero, Nat.add_zero, Nat.zero_add, Int.zero_add, Int.natCast_add, Int.natCast_mul, List.length_append, List.length_take, List.length_drop, List.length_replicate, List.length_set, tdv, tmd, fdv, s64, u64, u8m, ilt_t, ilt_f, ile_t, ile_f, ieq_t, ieq_f, nlt_t, nlt_f, nle_t, nle_f, neq_t, neq_f, Int.toNat_natCast, hE, hEq, qB, hDT, resD, (show ((W.length : Int) - ((n : Int) + 7) / 8 - 1).toNat = a from by omega), ha2]
                       change _ = true
                       kernel_rfl)
                    | (clear ha; simp -implicitDefEqProofs (maxSteps := 4000000) (disch := omega) only [go_sem, ↓reduceIte, reduceCtorEq, reduceDIte, Nat.reduceAdd, Nat.reduceMul, Nat.reduceSub, Nat.reduceBEq, Nat.reduceBNe, Nat.reduceBeqDiff, Nat.reduceLT, Nat.reduceLeDiff, Nat.reduceEqDiff, Nat.reduceDiv, Nat.reduceMod, Nat.reducePow, Int.reduceLT, Int.reduceLE, Int.reduceGT, Int.reduceGE, Int.reduceEq, Int.reduceNe, Int.reduceToNat, Int.reduceNeg, Int.reducePow, Int.reduceAdd, Int.reduceMul, Int.reduceSub, Int.reduceBEq, Int.reduceMod, Int.reduceDiv, Int.reduceNatCast, Nat.min_def, Int.add_sub_cancel, Int.add_zero, Nat.add_zero, Nat.zero_add, Int.zero_add, Int.natCast_add, Int.natCast_mul, List.length_append, List.length_take, List.length_drop, List.length_replicate, List.length_set, tdv, tmd, fdv, s64, u64, u8m, ilt_t, ilt_f, ile_t, ile_f, ieq_t, ieq_f, nlt_t, nlt_f, nle_t, nle_f, neq_t, neq_f, Int.toNat_natCast, hE, hEq, qB, hDT, resD]
                       change _ = true
                       kernel_rfl)
                  · rw [if_neg (fun h => hB h.2)] at hDT
                    simp -implicitDefEqProofs (maxSteps := 4000000) (disch := omega) only [go_sem, ↓reduceIte, reduceCtorEq, reduceDIte, Nat.reduceAdd, Nat.reduceMul, Nat.reduceSub, Nat.reduceBEq, Nat.reduceBNe, Nat.reduceBeqDiff, Nat.reduceLT, Nat.reduceLeDiff, Nat.reduceEqDiff, Nat.reduceDiv, Nat.reduceMod, Nat.reducePow, Int.reduceLT, Int.reduceLE, Int.reduceGT, Int.reduceGE, Int.reduceEq, Int.reduceNe, Int.reduceToNat, Int.reduceNeg, Int.reducePow, Int.reduceAdd, Int.reduceMul, Int.reduceSub, Int.reduceBEq, Int.reduceMod, Int.reduceDiv, Int.reduceNatCast, Nat.min_def, Int.add_sub_cancel, Int.add_zero, Nat.add_zero, Nat.zero_add, Int.zero_add, Int.natCast_add, Int.natCast_mul, List.length_append, List.length_take, List.length_drop, List.length_replicate, List.length_set, tdv, tmd, fdv, s64, u64, u8m, ilt_t, ilt_f, ile_t, ile_f, ieq_t, ieq_f, nlt_t, nlt_f, nle_t, nle_f, neq_t, neq_f, Int.toNat_natCast, hE, hEq, hB, hDT, resD]
                    change _ = true; kernel_rfl
                · rw [if_neg (fun h => hA h.1)] at hDT
                  simp -implicitDefEqProofs (maxSteps := 4000000) (disch := omega) only [go_sem, ↓reduceIte, reduceCtorEq, reduceDIte, Nat.reduceAdd, Nat.reduceMul, Nat.reduceSub, Nat.reduceBEq, Nat.reduceBNe, Nat.reduceBeqDiff, Nat.reduceLT, Nat.reduceLeDiff, Nat.reduceEqDiff, Nat.reduceDiv, Nat.reduceMod, Nat.reducePow, Int.reduceLT, Int.reduceLE, Int.reduceGT, Int.reduceGE, Int.reduceEq, Int.reduceNe, Int.reduceToNat, Int.reduceNeg, Int.reducePow, Int.reduceAdd, Int.reduceMul, Int.reduceSub, Int.reduceBEq, Int.reduceMod, Int.reduceDiv, Int.reduceNatCast, Nat.min_def, Int.add_sub_cancel, Int.add_zero, Nat.add_zero, Nat.zero_add, Int.zero_add, Int.natCast_add, Int.natCast_mul, List.length_append, List.length_take, List.length_drop, List.length_replicate, List.length_set, tdv, tmd, fdv, s64, u64, u8m, ilt_t, ilt_f, ile_t, ile_f, ieq_t, ieq_f, nlt_t, nlt_f, nle_t, nle_f, neq_t, neq_f, Int.toNat_natCast, hE, hDT, resD]
                  change _ = true; kernel_rfl
end Go.Proofs.Ytepofpmohiegpaa.D
