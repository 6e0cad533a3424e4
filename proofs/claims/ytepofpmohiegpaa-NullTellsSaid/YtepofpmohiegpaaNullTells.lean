/- NullTells: what the law comes to. -/
import Derived.Test.YtepofpmohiegpaaNullG
namespace Go.Proofs.Ytepofpmohiegpaa.D
open Go Go.Den
set_option linter.unusedSimpArgs false
set_option maxRecDepth 20000
set_option maxHeartbeats 4000000
theorem R8_set {zs : List Int} {x : Int} (h : R8 zs) (h0 : 0 ≤ x ∧ x < 256) (i : Nat) : R8 (zs.set i x) := fun z hz => by
  rcases List.mem_or_eq_of_mem_set hz with h1 | rfl
  · exact h z h1
  · exact h0
theorem encN_pos (l : List Bool) : 1 ≤ (encN l).length := by
  have := num_pos (l.length : Int)
  unfold encN; rw [List.length_append]; omega
theorem decN_len {zs : List Int} {l : List Bool} {r : List Int} (h : decN zs = some (l, r)) : l.length ≤ 65535 := by
  unfold decN at h
  split at h
  · cases h
  · split at h
    · cases h
    · split at h
      · cases h
      · split at h
        · cases h
        · rename_i hv _ _ _ _ ht
          split at h
          · injection h with h
            injection h with h1 h2
            subst h1
            exact tellN_len (by omega) ht
          · cases h
theorem NullTells_spec {l raw : List Int} {how at' by' : Int} (hr8 : R8 raw) (hby : 0 ≤ by' ∧ by' < 256) :
    dw E 8 [.sl 1 (ints .i64 l), .int .i64 how, .sl 1 (ints .u8 raw), .int .i64 at', .int .u8 by'] [] = some (.bool true, []) := by
  refine dw_in (fn := Try.f8) rfl rfl (by decide) ?_
  by_cases h1 : 200 < raw.length
  · simp -implicitDefEqProofs (maxSteps := 4000000) (disch := omega) only [go_sem, ↓reduceIte, reduceCtorEq, reduceDIte, Nat.reduceAdd, Nat.reduceMul, Nat.reduceSub, Nat.reduceBEq, Nat.reduceBNe, Nat.reduceBeqDiff, Nat.reduceLT, Nat.reduceLeDiff, Nat.reduceEqDiff, Nat.reduceDiv, Nat.reduceMod, Nat.reducePow, Int.reduceLT, Int.reduceLE, Int.reduceGT, Int.reduceGE, Int.reduceEq, Int.reduceNe, Int.reduceToNat, Int.reduceNeg, Int.reducePow, Int.reduceAdd, Int.reduceMul, Int.reduceSub, Int.reduceBEq, Int.reduceMod, Int.reduceDiv, Int.reduceNatCast, Nat.min_def, Int.add_sub_cancel, Int.add_zero, Nat.add_zero, Nat.zero_add, Int.zero_add, Int.natCast_add, Int.natCast_mul, List.length_append, List.length_take, List.length_drop, List.length_replicate, List.length_set, tdv, tmd, fdv, s64, u64, u8m, ilt_t, ilt_f, ile_t, ile_f, ieq_t, ieq_f, nlt_t, nlt_f, nle_t, nle_f, neq_t, neq_f, Int.toNat_natCast, awake3]
  · obtain ⟨x, hx⟩ : ∃ x, boolsN l how = x := ⟨_, rfl⟩
    have hxl : x.length ≤ 60 := by rw [← hx]; simp [boolsN]; omega
    have hEn := Encode_spec (l := x) (by omega)
    have hNu := RefNulls_spec (l := x) (by omega)
    have hC := Count_spec (l := x) (by omega)
    have hRC := RefCount_spec (l := x) (by omega)
    have hBl := encN_len x (by omega)
    have hB1 := encN_pos x
    have hB8 := encN_R8 x (by omega)
    have hBools := Bools_spec (l := l) (how := how)
    rw [hx] at hBools
    clear hx
    generalize encN x = B at hEn hNu hBl hB1 hB8
    obtain ⟨k, hk, hkl⟩ : ∃ k : Nat, (at' % 65536) % (B.length : Int) = k ∧ k < B.length := by
      have := Int.emod_lt_of_pos (at' % 65536) (b := B.length) (by omega)
      have := Int.emod_nonneg (at' % 65536) (b := B.length) (by omega)
      exact ⟨(at' % 65536 % B.length).toNat, by omega, by omega⟩
    obtain ⟨y, hy⟩ : ∃ y, B[k]? = some y := ⟨_, List.getElem?_eq_getElem hkl⟩
    simp -implicitDefEqProofs (maxSteps := 4000000) (disch := omega) only [go_sem, ↓reduceIte, reduceCtorEq, reduceDIte, Nat.reduceAdd, Nat.reduceMul, Nat.reduceSub, Nat.reduceBEq, Nat.reduceBNe, Nat.reduceBeqDiff, Nat.reduceLT, Nat.reduceLeDiff, Nat.reduceEqDiff, Nat.reduceDiv, Nat.reduceMod, Nat.reducePow, Int.reduceLT, Int.reduceLE, Int.reduceGT, Int.reduceGE, Int.reduceEq, Int.reduceNe, Int.reduceToNat, Int.reduceNeg, Int.reducePow, Int.reduceAdd, Int.reduceMul, Int.reduceSub, Int.reduceBEq, Int.reduceMod, Int.reduceDiv, Int.reduceNatCast, Nat.min_def, Int.add_sub_cancel, Int.add_zero, Nat.add_zero, Nat.zero_add, Int.zero_add, Int.natCast_add, Int.natCast_mul, List.length_append, List.length_take, List.length_drop, List.length_replicate, List.length_set, tdv, tmd, fdv, s64, u64, u8m, ilt_t, ilt_f, ile_t, ile_f, ieq_t, ieq_f, nlt_t, nlt_f, nle_t, nle_f, neq_t, neq_f, Int.toNat_natCast, hBools, hEn, hNu, hC, hRC, hk, hy]
    refine ⟨by change _ = true; kernel_rfl, by change _ = true; kernel_rfl, ?_⟩
    obtain ⟨elems, hel⟩ : ∃ el, [raw, B, B.set k by', B.take k, B ++ raw] = el := ⟨_, rfl⟩
    have hel5 : elems.length = 5 := by rw [← hel]; rfl
    have hall : ∀ xs ∈ elems, R8 xs ∧ xs.length ≤ 20000 := by
      rw [← hel]
      intro xs hxs
      simp only [List.mem_cons, List.not_mem_nil, or_false] at hxs
      rcases hxs with rfl | rfl | rfl | rfl | rfl
      · exact ⟨hr8, by omega⟩
      · exact ⟨hB8, by omega⟩
      · exact ⟨R8_set hB8 hby k, by rw [List.length_set]; omega⟩
      · exact ⟨hB8.take k, by rw [List.length_take]; omega⟩
      · exact ⟨hB8.append hr8, by rw [List.length_append]; omega⟩
    refine runs_for (fun e : Nat => (⟨[(69, .h 2101568), (70, .int .i64 5), (71, .int .i64 e)], [(2101568, some ⟨true, .row 36 1 (elems.map fun xs => [.sl 1 (ints .u8 xs)])⟩)], 1⟩ : St)) 5 ?_ ?_ ?_
    · clear hall
      simp -implicitDefEqProofs (maxSteps := 4000000) (disch := omega) only [go_sem, ↓reduceIte, reduceCtorEq, reduceDIte, Nat.reduceAdd, Nat.reduceMul, Nat.reduceSub, Nat.reduceBEq, Nat.reduceBNe, Nat.reduceBeqDiff, Nat.reduceLT, Nat.reduceLeDiff, Nat.reduceEqDiff, Nat.reduceDiv, Nat.reduceMod, Nat.reducePow, Int.reduceLT, Int.reduceLE, Int.reduceGT, Int.reduceGE, Int.reduceEq, Int.reduceNe, Int.reduceToNat, Int.reduceNeg, Int.reducePow, Int.reduceAdd, Int.reduceMul, Int.reduceSub, Int.reduceBEq, Int.reduceMod, Int.reduceDiv, Int.reduceNatCast, Nat.min_def, Int.add_sub_cancel, Int.add_zero, Nat.add_zero, Nat.zero_add, Int.zero_add, Int.natCast_add, Int.natCast_mul, List.length_append, List.length_take, List.length_drop, List.length_replicate, List.length_set, tdv, tmd, fdv, s64, u64, u8m, ilt_t, ilt_f, ile_t, ile_f, ieq_t, ieq_f, nlt_t, nlt_f, nle_t, nle_f, neq_t, neq_f, Int.toNat_natCast, ← hel] <;> rfl
    · intro e he
      obtain ⟨xs, hxs, hxm, _⟩ := take_get (show e < elems.length by omega)
      obtain ⟨h8, hxl⟩ := hall xs hxm
      have hD := Decode_spec (zs := xs) h8 (by omega)
      have hG := GetNulls_spec (zs := xs) h8 (by omega)
      clear hel hall hEn hNu hBools hC hRC
      cases hd : decN xs with
      | none =>
        rw [hd] at hD hG
        simp -implicitDefEqProofs (maxSteps := 4000000) (disch := omega) only [go_sem, ↓reduceIte, reduceCtorEq, reduceDIte, Nat.reduceAdd, Nat.reduceMul, Nat.reduceSub, Nat.reduceBEq, Nat.reduceBNe, Nat.reduceBeqDiff, Nat.reduceLT, Nat.reduceLeDiff, Nat.reduceEqDiff, Nat.reduceDiv, Nat.reduceMod, Nat.reducePow, Int.reduceLT, Int.reduceLE, Int.reduceGT, Int.reduceGE, Int.reduceEq, Int.reduceNe, Int.reduceToNat, Int.reduceNeg, Int.reducePow, Int.reduceAdd, Int.reduceMul, Int.reduceSub, Int.reduceBEq, Int.reduceMod, Int.reduceDiv, Int.reduceNatCast, Nat.min_def, Int.add_sub_cancel, Int.add_zero, Nat.add_zero, Nat.zero_add, Int.zero_add, Int.natCast_add, Int.natCast_mul, List.length_append, List.length_take, List.length_drop, List.length_replicate, List.length_set, tdv, tmd, fdv, s64, u64, u8m, ilt_t, ilt_f, ile_t, ile_f, ieq_t, ieq_f, nlt_t, nlt_f, nle_t, nle_f, neq_t, neq_f, Int.toNat_natCast, hxs, hel5, hD, hG, resD]
        refine runs_for (fun i : Nat => (⟨[(17, .nils), (20, .nils), (69, .h 2101568), (70, .int .i64 5), (71, .int .i64 e), (105, .int .i64 0), (106, .int .i64 i)], [(2101568, some ⟨true, .row 36 1 (elems.map fun xs => [.sl 1 (ints .u8 xs)])⟩)], 1⟩ : St)) 0 ?_ (fun i hi => absurd hi (by omega)) ?_
        · simp -implicitDefEqProofs (maxSteps := 4000000) (disch := omega) only [go_sem, ↓reduceIte, reduceCtorEq, reduceDIte, Nat.reduceAdd, Nat.reduceMul, Nat.reduceSub, Nat.reduceBEq, Nat.reduceBNe, Nat.reduceBeqDiff, Nat.reduceLT, Nat.reduceLeDiff, Nat.reduceEqDiff, Nat.reduceDiv, Nat.reduceMod, Nat.reducePow, Int.reduceLT, Int.reduceLE, Int.reduceGT, Int.reduceGE, Int.reduceEq, Int.reduceNe, Int.reduceToNat, Int.reduceNeg, Int.reducePow, Int.reduceAdd, Int.reduceMul, Int.reduceSub, Int.reduceBEq, Int.reduceMod, Int.reduceDiv, Int.reduceNatCast, Nat.min_def, Int.add_sub_cancel, Int.add_zero, Nat.add_zero, Nat.zero_add, Int.zero_add, Int.natCast_add, Int.natCast_mul, List.length_append, List.length_take, List.length_drop, List.length_replicate, List.length_set, tdv, tmd, fdv, s64, u64, u8m, ilt_t, ilt_f, ile_t, ile_f, ieq_t, ieq_f, nlt_t, nlt_f, nle_t, nle_f, neq_t, neq_f, Int.toNat_natCast]
        · simp -implicitDefEqProofs (maxSteps := 4000000) (disch := omega) only [go_sem, ↓reduceIte, reduceCtorEq, reduceDIte, Nat.reduceAdd, Nat.reduceMul, Nat.reduceSub, Nat.reduceBEq, Nat.reduceBNe, Nat.reduceBeqDiff, Nat.reduceLT, Nat.reduceLeDiff, Nat.reduceEqDiff, Nat.reduceDiv, Nat.reduceMod, Nat.reducePow, Int.reduceLT, Int.reduceLE, Int.reduceGT, Int.reduceGE, Int.reduceEq, Int.reduceNe, Int.reduceToNat, Int.reduceNeg, Int.reducePow, Int.reduceAdd, Int.reduceMul, Int.reduceSub, Int.reduceBEq, Int.reduceMod, Int.reduceDiv, Int.reduceNatCast, Nat.min_def, Int.add_sub_cancel, Int.add_zero, Nat.add_zero, Nat.zero_add, Int.zero_add, Int.natCast_add, Int.natCast_mul, List.length_append, List.length_take, List.length_drop, List.length_replicate, List.length_set, tdv, tmd, fdv, s64, u64, u8m, ilt_t, ilt_f, ile_t, ile_f, ieq_t, ieq_f, nlt_t, nlt_f, nle_t, nle_f, neq_t, neq_f, Int.toNat_natCast]
      | some p =>
        obtain ⟨m, r⟩ := p
        have hml := decN_len hd
        rw [hd] at hD hG
        simp -implicitDefEqProofs (maxSteps := 4000000) (disch := omega) only [go_sem, ↓reduceIte, reduceCtorEq, reduceDIte, Nat.reduceAdd, Nat.reduceMul, Nat.reduceSub, Nat.reduceBEq, Nat.reduceBNe, Nat.reduceBeqDiff, Nat.reduceLT, Nat.reduceLeDiff, Nat.reduceEqDiff, Nat.reduceDiv, Nat.reduceMod, Nat.reducePow, Int.reduceLT, Int.reduceLE, Int.reduceGT, Int.reduceGE, Int.reduceEq, Int.reduceNe, Int.reduceToNat, Int.reduceNeg, Int.reducePow, Int.reduceAdd, Int.reduceMul, Int.reduceSub, Int.reduceBEq, Int.reduceMod, Int.reduceDiv, Int.reduceNatCast, Nat.min_def, Int.add_sub_cancel, Int.add_zero, Nat.add_zero, Nat.zero_add, Int.zero_add, Int.natCast_add, Int.natCast_mul, List.length_append, List.length_take, List.length_drop, List.length_replicate, List.length_set, tdv, tmd, fdv, s64, u64, u8m, ilt_t, ilt_f, ile_t, ile_f, ieq_t, ieq_f, nlt_t, nlt_f, nle_t, nle_f, neq_t, neq_f, Int.toNat_natCast, hxs, hel5, hD, hG, resD]
        refine runs_for (fun i : Nat => (⟨[(17, .h 2098240), (20, .h 2098432), (69, .h 2101568), (70, .int .i64 5), (71, .int .i64 e), (105, .int .i64 m.length), (106, .int .i64 i)], [(2098240, some ⟨true, .row 4 1 (bools m)⟩), (2098432, some ⟨true, .row 4 1 (bools m)⟩), (2101568, some ⟨true, .row 36 1 (elems.map fun xs => [.sl 1 (ints .u8 xs)])⟩)], 1⟩ : St)) m.length ?_ ?_ ?_
        · simp -implicitDefEqProofs (maxSteps := 4000000) (disch := omega) only [go_sem, ↓reduceIte, reduceCtorEq, reduceDIte, Nat.reduceAdd, Nat.reduceMul, Nat.reduceSub, Nat.reduceBEq, Nat.reduceBNe, Nat.reduceBeqDiff, Nat.reduceLT, Nat.reduceLeDiff, Nat.reduceEqDiff, Nat.reduceDiv, Nat.reduceMod, Nat.reducePow, Int.reduceLT, Int.reduceLE, Int.reduceGT, Int.reduceGE, Int.reduceEq, Int.reduceNe, Int.reduceToNat, Int.reduceNeg, Int.reducePow, Int.reduceAdd, Int.reduceMul, Int.reduceSub, Int.reduceBEq, Int.reduceMod, Int.reduceDiv, Int.reduceNatCast, Nat.min_def, Int.add_sub_cancel, Int.add_zero, Nat.add_zero, Nat.zero_add, Int.zero_add, Int.natCast_add, Int.natCast_mul, List.length_append, List.length_take, List.length_drop, List.length_replicate, List.length_set, tdv, tmd, fdv, s64, u64, u8m, ilt_t, ilt_f, ile_t, ile_f, ieq_t, ieq_f, nlt_t, nlt_f, nle_t, nle_f, neq_t, neq_f, Int.toNat_natCast]
        · intro i hi
          obtain ⟨b, hb, _, _⟩ := take_get hi
          clear hD hG
          cases b <;> simp -implicitDefEqProofs (maxSteps := 4000000) (disch := omega) only [go_sem, ↓reduceIte, reduceCtorEq, reduceDIte, Nat.reduceAdd, Nat.reduceMul, Nat.reduceSub, Nat.reduceBEq, Nat.reduceBNe, Nat.reduceBeqDiff, Nat.reduceLT, Nat.reduceLeDiff, Nat.reduceEqDiff, Nat.reduceDiv, Nat.reduceMod, Nat.reducePow, Int.reduceLT, Int.reduceLE, Int.reduceGT, Int.reduceGE, Int.reduceEq, Int.reduceNe, Int.reduceToNat, Int.reduceNeg, Int.reducePow, Int.reduceAdd, Int.reduceMul, Int.reduceSub, Int.reduceBEq, Int.reduceMod, Int.reduceDiv, Int.reduceNatCast, Nat.min_def, Int.add_sub_cancel, Int.add_zero, Nat.add_zero, Nat.zero_add, Int.zero_add, Int.natCast_add, Int.natCast_mul, List.length_append, List.length_take, List.length_drop, List.length_replicate, List.length_set, tdv, tmd, fdv, s64, u64, u8m, ilt_t, ilt_f, ile_t, ile_f, ieq_t, ieq_f, nlt_t, nlt_f, nle_t, nle_f, neq_t, neq_f, Int.toNat_natCast, hb] <;> (change _ = true; kernel_rfl)
        · simp -implicitDefEqProofs (maxSteps := 4000000) (disch := omega) only [go_sem, ↓reduceIte, reduceCtorEq, reduceDIte, Nat.reduceAdd, Nat.reduceMul, Nat.reduceSub, Nat.reduceBEq, Nat.reduceBNe, Nat.reduceBeqDiff, Nat.reduceLT, Nat.reduceLeDiff, Nat.reduceEqDiff, Nat.reduceDiv, Nat.reduceMod, Nat.reducePow, Int.reduceLT, Int.reduceLE, Int.reduceGT, Int.reduceGE, Int.reduceEq, Int.reduceNe, Int.reduceToNat, Int.reduceNeg, Int.reducePow, Int.reduceAdd, Int.reduceMul, Int.reduceSub, Int.reduceBEq, Int.reduceMod, Int.reduceDiv, Int.reduceNatCast, Nat.min_def, Int.add_sub_cancel, Int.add_zero, Nat.add_zero, Nat.zero_add, Int.zero_add, Int.natCast_add, Int.natCast_mul, List.length_append, List.length_take, List.length_drop, List.length_replicate, List.length_set, tdv, tmd, fdv, s64, u64, u8m, ilt_t, ilt_f, ile_t, ile_f, ieq_t, ieq_f, nlt_t, nlt_f, nle_t, nle_f, neq_t, neq_f, Int.toNat_natCast]
    · simp -implicitDefEqProofs (maxSteps := 4000000) (disch := omega) only [go_sem, ↓reduceIte, reduceCtorEq, reduceDIte, Nat.reduceAdd, Nat.reduceMul, Nat.reduceSub, Nat.reduceBEq, Nat.reduceBNe, Nat.reduceBeqDiff, Nat.reduceLT, Nat.reduceLeDiff, Nat.reduceEqDiff, Nat.reduceDiv, Nat.reduceMod, Nat.reducePow, Int.reduceLT, Int.reduceLE, Int.reduceGT, Int.reduceGE, Int.reduceEq, Int.reduceNe, Int.reduceToNat, Int.reduceNeg, Int.reducePow, Int.reduceAdd, Int.reduceMul, Int.reduceSub, Int.reduceBEq, Int.reduceMod, Int.reduceDiv, Int.reduceNatCast, Nat.min_def, Int.add_sub_cancel, Int.add_zero, Nat.add_zero, Nat.zero_add, Int.zero_add, Int.natCast_add, Int.natCast_mul, List.length_append, List.length_take, List.length_drop, List.length_replicate, List.length_set, tdv, tmd, fdv, s64, u64, u8m, ilt_t, ilt_f, ile_t, ile_f, ieq_t, ieq_f, nlt_t, nlt_f, nle_t, nle_f, neq_t, neq_f, Int.toNat_natCast, awake3]
end Go.Proofs.Ytepofpmohiegpaa.D
