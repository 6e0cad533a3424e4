/- CodeRows: what the law comes to. -/
import Derived.Test.YtahhpnilblcfcaaCode3
namespace Go.Proofs.Ytahhpnilblcfcaa.D
open Go Go.Den
set_option linter.unusedSimpArgs false
set_option maxRecDepth 20000
set_option maxHeartbeats 4000000
theorem awake2' : dw E 16 [] [] = some (.bool true, []) := dw_of (k := 100) (by kernel_rfl)
def encR (raw : List Int) : List Int → List Int
  | [] => []
  | u :: r => num u ++ num raw.length ++ raw ++ encR raw r

theorem encR_append (raw : List Int) : ∀ a b, encR raw (a ++ b) = encR raw a ++ encR raw b
  | [], b => rfl
  | u :: r, b => by simp only [List.cons_append, encR, encR_append raw r b, List.append_assoc]
theorem encR_len {raw : List Int} (hr : raw.length ≤ 100) : ∀ {us : List Int}, R64 us → (encR raw us).length ≤ us.length * 120
  | [], _ => by simp [encR]
  | u :: r, h => by
    have h1 := encR_len hr (us := r) fun z hz => h z (List.mem_cons_of_mem _ hz)
    have h2 := h u (List.mem_cons_self)
    have h3 := num_len10 h2.1 h2.2
    have h4 := num_len10 (u := (raw.length : Int)) (by omega) (by omega)
    simp only [encR, List.length_append, List.length_cons]
    omega
theorem encR_R8 {raw : List Int} (hr : raw.length ≤ 100) (h8 : R8 raw) : ∀ {us : List Int}, R64 us → R8 (encR raw us)
  | [], _ => fun z hz => by simp [encR] at hz
  | u :: r, h => by
    have h1 := encR_R8 hr h8 (us := r) fun z hz => h z (List.mem_cons_of_mem _ hz)
    have h2 := h u (List.mem_cons_self)
    exact ((num_r8 h2.1 h2.2).append (num_r8 (by omega) (by omega))).append h8 |>.append h1
theorem take_num {u : Int} {s : List Int} {K : Nat} (h0 : 0 ≤ u) (h1 : u < 18446744073709551616) : pnum 0 0 ((num u ++ s).take K) = if (num u).length ≤ K then some (u, s.take (K - (num u).length)) else none := by
  rw [List.take_append]
  split
  · rename_i h
    rw [List.take_of_length_le h, pnum_of_num _ h0 h1]
  · rename_i h
    rw [show K - (num u).length = 0 by omega, List.take_zero, List.append_nil, pnum_cut10 h0 h1 (by omega)]
/-- what is still to be read -/
def rest (raw us : List Int) (i : Nat) : List Int := encR raw (us.drop i) ++ num 7
theorem rest_succ {raw us : List Int} {i : Nat} {u : Int} (h : us[i]? = some u) : rest raw us i = num u ++ (num raw.length ++ (raw ++ rest raw us (i + 1))) := by
  have hi : i < us.length := (List.getElem?_eq_some_iff.1 h).1
  have hd : us.drop i = u :: us.drop (i + 1) := by
    rw [List.drop_eq_getElem_cons hi]; congr 1; rw [List.getElem?_eq_getElem hi] at h; simpa using h
  simp only [rest, hd, encR, List.append_assoc]
theorem rest_len {raw us : List Int} (i : Nat) (hr : raw.length ≤ 100) (hu : R64 us) (hl : us.length ≤ 20) : (rest raw us i).length ≤ 2410 := by
  have h1 := encR_len hr (us := us.drop i) fun z hz => hu z (List.mem_of_mem_drop hz)
  have h2 : (us.drop i).length ≤ 20 := by rw [List.length_drop]; omega
  have h3 : (num 7).length = 1 := by rw [num_lt (by decide) (by decide)]; rfl
  simp only [rest, List.length_append]; omega
theorem rest_R8 {raw us : List Int} (i : Nat) (hr : raw.length ≤ 100) (h8 : R8 raw) (hu : R64 us) : R8 (rest raw us i) :=
  (encR_R8 hr h8 fun z hz => hu z (List.mem_of_mem_drop hz)).append (num_r8 (by decide) (by decide))
theorem round {raw us : List Int} {i K : Nat} {u : Int} (h : us[i]? = some u) (h0 : 0 ≤ u) (h1 : u < 18446744073709551616) (hr : raw.length ≤ 100) (hK : K ≤ (rest raw us i).length) :
    (pnum 0 0 ((rest raw us i).take K) = none ∧ K < (rest raw us i).length) ∨
    ∃ r1, pnum 0 0 ((rest raw us i).take K) = some (u, r1) ∧ ((readB false (pnum 0 0 r1) = (.nils, [[.nils, .bool true]]) ∧ K < (rest raw us i).length) ∨
      ∃ K', readB false (pnum 0 0 r1) = (.nr 5 1 (ints .u8 raw), [[.sl 1 (ints .u8 ((rest raw us (i + 1)).take K')), .bool false]]) ∧ K' ≤ (rest raw us (i + 1)).length ∧ K' + (rest raw us i).length = K + (rest raw us (i + 1)).length) := by
  have hL0 : 0 ≤ (raw.length : Int) := by omega
  have hL1 : (raw.length : Int) < 18446744073709551616 := by omega
  rw [rest_succ h, take_num h0 h1]
  rw [rest_succ h] at hK
  simp only [List.length_append] at hK ⊢
  split
  · rename_i hA
    refine .inr ⟨_, rfl, ?_⟩
    rw [take_num hL0 hL1]
    split
    · rename_i hB
      by_cases hC : raw.length ≤ K - (num u).length - (num (raw.length : Int)).length
      · refine .inr ⟨K - (num u).length - (num (raw.length : Int)).length - raw.length, ?_, by omega, by omega⟩
        have hl2 : ((raw ++ rest raw us (i + 1)).take (K - (num u).length - (num (raw.length : Int)).length)) = raw ++ (rest raw us (i + 1)).take (K - (num u).length - (num (raw.length : Int)).length - raw.length) := by
          rw [List.take_append, List.take_of_length_le hC]
        simp only [readB, hl2, Int.toNat_natCast, List.take_left, List.drop_left, List.length_append]
        rw [if_pos ⟨by omega, by omega⟩]
      · refine .inl ⟨?_, by omega⟩
        simp only [readB, List.length_take, List.length_append]
        rw [if_neg]
        omega
    · rename_i hB
      exact .inl ⟨rfl, by omega⟩
  · rename_i hA
    exact .inl ⟨rfl, by omega⟩
/-- The first loop: the numbers and the bytes, one behind the other. -/
theorem CodeRows_spec {us raw : List Int} {cut : Int} (hu : R64 us) (hr : R8 raw) :
    dw E 5 [.sl 1 (ints .u64 us), .sl 1 (ints .u8 raw), .int .i64 cut] [] = some (.bool true, []) := by
  refine dw_intro (fn := Try.f5) rfl rfl (by decide) ?_
  by_cases h1 : 100 < raw.length
  · have h1' : 100 < (raw.length : Int) := by omega
    simp -implicitDefEqProofs only [go_sem, ↓reduceIte, reduceCtorEq, reduceDIte, Nat.reduceAdd, Nat.reduceMul, Nat.reduceSub, Nat.reduceBEq, Nat.reduceBNe, Nat.reduceBeqDiff, Nat.reduceLT, Nat.reduceLeDiff, Nat.reduceEqDiff, Nat.reduceDiv, Nat.reduceMod, Nat.reducePow, Int.reduceLT, Int.reduceLE, Int.reduceGT, Int.reduceGE, Int.reduceEq, Int.reduceNe, Int.reduceToNat, Int.reduceNeg, Int.reducePow, Int.reduceAdd, Int.reduceMul, Int.reduceSub, Int.reduceBEq, Int.reduceMod, Int.reduceDiv, Int.reduceNatCast, Nat.min_def, h1', awake2']
  · have h1' : ¬ 100 < (raw.length : Int) := by omega
    by_cases h2 : 20 < us.length
    · have h2' : 20 < (us.length : Int) := by omega
      simp -implicitDefEqProofs only [go_sem, ↓reduceIte, reduceCtorEq, reduceDIte, Nat.reduceAdd, Nat.reduceMul, Nat.reduceSub, Nat.reduceBEq, Nat.reduceBNe, Nat.reduceBeqDiff, Nat.reduceLT, Nat.reduceLeDiff, Nat.reduceEqDiff, Nat.reduceDiv, Nat.reduceMod, Nat.reducePow, Int.reduceLT, Int.reduceLE, Int.reduceGT, Int.reduceGE, Int.reduceEq, Int.reduceNe, Int.reduceToNat, Int.reduceNeg, Int.reducePow, Int.reduceAdd, Int.reduceMul, Int.reduceSub, Int.reduceBEq, Int.reduceMod, Int.reduceDiv, Int.reduceNatCast, Nat.min_def, h1', h2', awake2']
    · have h2' : ¬ 20 < (us.length : Int) := by omega
      simp -implicitDefEqProofs only [go_sem, ↓reduceIte, reduceCtorEq, reduceDIte, Nat.reduceAdd, Nat.reduceMul, Nat.reduceSub, Nat.reduceBEq, Nat.reduceBNe, Nat.reduceBeqDiff, Nat.reduceLT, Nat.reduceLeDiff, Nat.reduceEqDiff, Nat.reduceDiv, Nat.reduceMod, Nat.reducePow, Int.reduceLT, Int.reduceLE, Int.reduceGT, Int.reduceGE, Int.reduceEq, Int.reduceNe, Int.reduceToNat, Int.reduceNeg, Int.reducePow, Int.reduceAdd, Int.reduceMul, Int.reduceSub, Int.reduceBEq, Int.reduceMod, Int.reduceDiv, Int.reduceNatCast, Nat.min_def, h1', h2']
      refine runs_loop (fun a : Nat => (⟨[(0, .sl 1 (ints .u64 us)), (1, .sl 1 (ints .u8 raw)), (2, .int .i64 cut), (7, .h 2097600), (27, .sl 1 (ints .u64 us)), (28, .int .i64 us.length), (29, .int .i64 a)], [(2097600, some ⟨true, .row 5 1 (ints .u8 (encR raw (us.take a)))⟩)], 1⟩ : St)) (fun a => us.length - a) 0 ?_
        (fun a => a ≤ us.length) (by omega) ?_
      · simp -implicitDefEqProofs only [go_sem, ↓reduceIte, reduceCtorEq, reduceDIte, Nat.reduceAdd, Nat.reduceMul, Nat.reduceSub, Nat.reduceBEq, Nat.reduceBNe, Nat.reduceBeqDiff, Nat.reduceLT, Nat.reduceLeDiff, Nat.reduceEqDiff, Nat.reduceDiv, Nat.reduceMod, Nat.reducePow, Int.reduceLT, Int.reduceLE, Int.reduceGT, Int.reduceGE, Int.reduceEq, Int.reduceNe, Int.reduceToNat, Int.reduceNeg, Int.reducePow, Int.reduceAdd, Int.reduceMul, Int.reduceSub, Int.reduceBEq, Int.reduceMod, Int.reduceDiv, Int.reduceNatCast, Nat.min_def, encR, ints_nil]
      · intro i hi
        by_cases hlt : i < us.length
        · obtain ⟨u, hc⟩ : ∃ u, us[i]? = some u := ⟨_, List.getElem?_eq_getElem hlt⟩
          obtain ⟨hc0, hc1⟩ := hu u (List.mem_of_getElem? hc)
          have ht : us.take (i + 1) = us.take i ++ [u] := by rw [List.take_add_one, hc]; rfl
          have hlt' : (i : Int) < us.length := by omega
          have ei : 0 ≤ (i : Int) := by omega
          have en : ((i : Int) + 1 + 9223372036854775808) % 18446744073709551616 - 9223372036854775808 = ((i + 1 : Nat) : Int) := by omega
          have hlen := encR_len (raw := raw) (by omega) (us := us.take i) fun z hz => hu z (List.mem_of_mem_take hz)
          have hlen2 : (us.take i).length ≤ 20 := by rw [List.length_take]; omega
          have h10 := num_len10 hc0 hc1
          simp -implicitDefEqProofs only [go_sem, ↓reduceIte, reduceCtorEq, reduceDIte, Nat.reduceAdd, Nat.reduceMul, Nat.reduceSub, Nat.reduceBEq, Nat.reduceBNe, Nat.reduceBeqDiff, Nat.reduceLT, Nat.reduceLeDiff, Nat.reduceEqDiff, Nat.reduceDiv, Nat.reduceMod, Nat.reducePow, Int.reduceLT, Int.reduceLE, Int.reduceGT, Int.reduceGE, Int.reduceEq, Int.reduceNe, Int.reduceToNat, Int.reduceNeg, Int.reducePow, Int.reduceAdd, Int.reduceMul, Int.reduceSub, Int.reduceBEq, Int.reduceMod, Int.reduceDiv, Int.reduceNatCast, Nat.min_def, hlt', ei, hc, en, Num_sl (zs := encR raw (us.take i)) (u := u) (by omega) hc0 hc1, Bytes_sl (zs := encR raw (us.take i) ++ num u) (xs := raw) (by rw [List.length_append]; omega) (by omega)]
          exact ⟨i + 1, by omega, by omega, by rw [ht, encR_append]; simp only [encR, List.append_nil, List.append_assoc]⟩
        · have hlt' : ¬ (i : Int) < us.length := by omega
          have : us.take i = us := List.take_of_length_le (by omega)
          rw [this]
          have hlen := encR_len (raw := raw) (by omega) hu
          have h16 := Int.emod_lt_of_pos cut (show (0 : Int) < 65536 by decide)
          have h160 := Int.emod_nonneg cut (show (65536 : Int) ≠ 0 by decide)
          obtain ⟨full, hF⟩ : ∃ f, encR raw us ++ num 7 = f := ⟨_, rfl⟩
          have hFl : full.length = (encR raw us).length + 1 := by rw [← hF, num_lt (by decide) (by decide)]; simp
          have hL0 : ((full.length : Int) = 0) = False := eq_false (by omega)
          have hL1 : ((full.length : Int) - 1 + 9223372036854775808) % 18446744073709551616 - 9223372036854775808 = ((full.length - 1 : Nat) : Int) := by omega
          obtain ⟨cN, hcN, hcl⟩ : ∃ cN : Nat, (cut % 65536).tmod full.length = cN ∧ cN < full.length := by
            rw [Int.tmod_eq_emod_of_nonneg h160]
            have := Int.emod_lt_of_pos (cut % 65536) (b := full.length) (by omega)
            have := Int.emod_nonneg (cut % 65536) (b := full.length) (by omega)
            exact ⟨(cut % 65536 % full.length).toNat, by omega, by omega⟩
          obtain ⟨N, hN⟩ : ∃ N : Nat, N = full.length - 1 - cN := ⟨_, rfl⟩
          have hN1 : (((full.length - 1 : Nat) : Int) - (cN : Int) + 9223372036854775808) % 18446744073709551616 - 9223372036854775808 = (N : Int) := by omega
          have hN2 : 0 ≤ (N : Int) := by omega
          have hN3 : (N : Int) ≤ full.length := by omega
          simp -implicitDefEqProofs only [go_sem, ↓reduceIte, reduceCtorEq, reduceDIte, Nat.reduceAdd, Nat.reduceMul, Nat.reduceSub, Nat.reduceBEq, Nat.reduceBNe, Nat.reduceBeqDiff, Nat.reduceLT, Nat.reduceLeDiff, Nat.reduceEqDiff, Nat.reduceDiv, Nat.reduceMod, Nat.reducePow, Int.reduceLT, Int.reduceLE, Int.reduceGT, Int.reduceGE, Int.reduceEq, Int.reduceNe, Int.reduceToNat, Int.reduceNeg, Int.reducePow, Int.reduceAdd, Int.reduceMul, Int.reduceSub, Int.reduceBEq, Int.reduceMod, Int.reduceDiv, Int.reduceNatCast, Nat.min_def, hlt', Num_sl (zs := encR raw us) (u := 7) (by omega) (by decide) (by decide), hF, hL0, hL1, hcN, hN1, hN2, hN3]
          refine runs_loop (fun j : Nat => (⟨[(0, .sl 1 (ints .u64 us)), (1, .sl 1 (ints .u8 raw)), (7, .sl 1 (ints .u8 full)), (56, .h 2100736), (57, .int .i64 2), (58, .int .i64 j)], [(2100736, some ⟨true, .row 27 1 [[.sl 1 (ints .u8 full)], [.sl 1 (ints .u8 (full.take N))]]⟩)], 1⟩ : St)) (fun j => 2 - j) 0 ?_
            (fun j => j ≤ 2) (by omega) ?_
          · simp -implicitDefEqProofs only [go_sem, ↓reduceIte, reduceCtorEq, reduceDIte, Nat.reduceAdd, Nat.reduceMul, Nat.reduceSub, Nat.reduceBEq, Nat.reduceBNe, Nat.reduceBeqDiff, Nat.reduceLT, Nat.reduceLeDiff, Nat.reduceEqDiff, Nat.reduceDiv, Nat.reduceMod, Nat.reducePow, Int.reduceLT, Int.reduceLE, Int.reduceGT, Int.reduceGE, Int.reduceEq, Int.reduceNe, Int.reduceToNat, Int.reduceNeg, Int.reducePow, Int.reduceAdd, Int.reduceMul, Int.reduceSub, Int.reduceBEq, Int.reduceMod, Int.reduceDiv, Int.reduceNatCast, Nat.min_def]
          · intro j hj
            by_cases hj2 : j = 2
            · subst hj2
              simp -implicitDefEqProofs only [go_sem, ↓reduceIte, reduceCtorEq, reduceDIte, Nat.reduceAdd, Nat.reduceMul, Nat.reduceSub, Nat.reduceBEq, Nat.reduceBNe, Nat.reduceBeqDiff, Nat.reduceLT, Nat.reduceLeDiff, Nat.reduceEqDiff, Nat.reduceDiv, Nat.reduceMod, Nat.reducePow, Int.reduceLT, Int.reduceLE, Int.reduceGT, Int.reduceGE, Int.reduceEq, Int.reduceNe, Int.reduceToNat, Int.reduceNeg, Int.reducePow, Int.reduceAdd, Int.reduceMul, Int.reduceSub, Int.reduceBEq, Int.reduceMod, Int.reduceDiv, Int.reduceNatCast, Nat.min_def, awake2']
            · obtain ⟨M, hM, hM1, hM2⟩ : ∃ M, M ≤ full.length ∧ ([[PV.sl 1 (ints .u8 full)], [PV.sl 1 (ints .u8 (full.take N))]])[j]? = some [PV.sl 1 (ints .u8 (full.take M))] ∧ (M = full.length ∨ j = 1 ∧ M = N) := by
                rcases (show j = 0 ∨ j = 1 by omega) with rfl | rfl
                · exact ⟨full.length, by omega, by simp, .inl rfl⟩
                · exact ⟨N, by omega, by simp, .inr ⟨rfl, rfl⟩⟩
              have hjl : (j : Int) < 2 := by omega
              have hj0 : 0 ≤ (j : Int) := by omega
              have hMl : (full.take M).length = M := by rw [List.length_take]; omega
              have hjn : j < 2 := by omega
              simp -implicitDefEqProofs only [go_sem, ↓reduceIte, reduceCtorEq, reduceDIte, Nat.reduceAdd, Nat.reduceMul, Nat.reduceSub, Nat.reduceBEq, Nat.reduceBNe, Nat.reduceBeqDiff, Nat.reduceLT, Nat.reduceLeDiff, Nat.reduceEqDiff, Nat.reduceDiv, Nat.reduceMod, Nat.reducePow, Int.reduceLT, Int.reduceLE, Int.reduceGT, Int.reduceGE, Int.reduceEq, Int.reduceNe, Int.reduceToNat, Int.reduceNeg, Int.reducePow, Int.reduceAdd, Int.reduceMul, Int.reduceSub, Int.reduceBEq, Int.reduceMod, Int.reduceDiv, Int.reduceNatCast, Nat.min_def, hjl, hj0, hjn, hM1, Read_sl (zs := full.take M) (by omega)]
              have hF0 : rest raw us 0 = full := by rw [← hF]; simp [rest]
              have hL : 0 ≤ (raw.length : Int) := by omega
              refine runs_loop (fun a : Nat × Option (Option Nat) => (⟨[(0, .sl 1 (ints .u64 us)), (1, .sl 1 (ints .u8 raw)), (7, .sl 1 (ints .u8 full)), (11, .sl 1 (ints .u8 (full.take M))), (12, .pb 1048588 0), (56, .h 2100736), (57, .int .i64 2), (58, .int .i64 j), (66, .sl 1 (ints .u64 us)), (67, .int .i64 us.length), (68, .int .i64 a.1)],
                  (match a.2 with
                    | none => [(1048588, some ⟨true, .box [.h 2097920, .bool false]⟩), (2097920, some ⟨true, .row 5 1 (ints .u8 (full.take M))⟩), (2100736, some ⟨true, .row 27 1 [[.sl 1 (ints .u8 full)], [.sl 1 (ints .u8 (full.take N))]]⟩)]
                    | some none => [(1048588, some ⟨true, .box [.nils, .bool true]⟩), (2100736, some ⟨true, .row 27 1 [[.sl 1 (ints .u8 full)], [.sl 1 (ints .u8 (full.take N))]]⟩)]
                    | some (some K) => [(1048588, some ⟨true, .box [.sl 1 (ints .u8 ((rest raw us a.1).take K)), .bool false]⟩), (2100736, some ⟨true, .row 27 1 [[.sl 1 (ints .u8 full)], [.sl 1 (ints .u8 (full.take N))]]⟩)]), 1⟩ : St)) (fun a => us.length - a.1) (0, none) ?_
                (fun a => a.1 ≤ us.length ∧ match a.2 with | none => a.1 = 0 | some none => M < full.length | some (some K) => K ≤ (rest raw us a.1).length ∧ K + full.length = M + (rest raw us a.1).length) ⟨by omega, rfl⟩ ?_
              · simp -implicitDefEqProofs only [go_sem, ↓reduceIte, reduceCtorEq, reduceDIte, Nat.reduceAdd, Nat.reduceMul, Nat.reduceSub, Nat.reduceBEq, Nat.reduceBNe, Nat.reduceBeqDiff, Nat.reduceLT, Nat.reduceLeDiff, Nat.reduceEqDiff, Nat.reduceDiv, Nat.reduceMod, Nat.reducePow, Int.reduceLT, Int.reduceLE, Int.reduceGT, Int.reduceGE, Int.reduceEq, Int.reduceNe, Int.reduceToNat, Int.reduceNeg, Int.reducePow, Int.reduceAdd, Int.reduceMul, Int.reduceSub, Int.reduceBEq, Int.reduceMod, Int.reduceDiv, Int.reduceNatCast, Nat.min_def]
              · rintro ⟨i, q⟩ ⟨hi, hq⟩
                dsimp only at hi hq
                have hRl := rest_len (raw := raw) i (by omega) hu (by omega)
                have hR8 := rest_R8 (raw := raw) i (by omega) hr hu
                by_cases hlt : i < us.length
                · obtain ⟨u, hc⟩ : ∃ u, us[i]? = some u := ⟨_, List.getElem?_eq_getElem hlt⟩
                  obtain ⟨hc0, hc1⟩ := hu u (List.mem_of_getElem? hc)
                  have hlt' : (i : Int) < us.length := by omega
                  have ei : 0 ≤ (i : Int) := by omega
                  have en : ((i : Int) + 1 + 9223372036854775808) % 18446744073709551616 - 9223372036854775808 = ((i + 1 : Nat) : Int) := by omega
                  rcases q with _ | _ | K
                  · dsimp only at hq
                    have hRi : rest raw us i = full := by rw [hq]; exact hF0
                    rw [hRi] at hRl hR8
                    have hKl : (full.take M).length ≤ 1000000000000 := by omega
                    have hR := round (raw := raw) (K := M) hc hc0 hc1 (by omega) (by rw [hRi]; omega)
                    rw [hRi] at hR
                    rcases hR with ⟨hA, hB⟩ | ⟨r1, hA, ⟨hB, hC⟩ | ⟨K', hB, hC, hD⟩⟩
                    · simp -implicitDefEqProofs only [go_sem, ↓reduceIte, reduceCtorEq, reduceDIte, Nat.reduceAdd, Nat.reduceMul, Nat.reduceSub, Nat.reduceBEq, Nat.reduceBNe, Nat.reduceBeqDiff, Nat.reduceLT, Nat.reduceLeDiff, Nat.reduceEqDiff, Nat.reduceDiv, Nat.reduceMod, Nat.reducePow, Int.reduceLT, Int.reduceLE, Int.reduceGT, Int.reduceGE, Int.reduceEq, Int.reduceNe, Int.reduceToNat, Int.reduceNeg, Int.reducePow, Int.reduceAdd, Int.reduceMul, Int.reduceSub, Int.reduceBEq, Int.reduceMod, Int.reduceDiv, Int.reduceNatCast, Nat.min_def, hlt', ei, hc, en, RNum_sl (hR8.take M) hKl, hA, readN, RBytes_nils, Ok_nils]
                      exact ⟨(i + 1, some none), ⟨by omega, hB⟩, by omega, rfl⟩
                    · have hr1 := pnum_len hA
                      simp -implicitDefEqProofs only [go_sem, ↓reduceIte, reduceCtorEq, reduceDIte, Nat.reduceAdd, Nat.reduceMul, Nat.reduceSub, Nat.reduceBEq, Nat.reduceBNe, Nat.reduceBeqDiff, Nat.reduceLT, Nat.reduceLeDiff, Nat.reduceEqDiff, Nat.reduceDiv, Nat.reduceMod, Nat.reducePow, Int.reduceLT, Int.reduceLE, Int.reduceGT, Int.reduceGE, Int.reduceEq, Int.reduceNe, Int.reduceToNat, Int.reduceNeg, Int.reducePow, Int.reduceAdd, Int.reduceMul, Int.reduceSub, Int.reduceBEq, Int.reduceMod, Int.reduceDiv, Int.reduceNatCast, Nat.min_def, hlt', ei, hc, en, RNum_sl (hR8.take M) hKl, hA, readN, RBytes_sl (pnum_R8 hA (hR8.take M)) (by omega), hB, Ok_nils]
                      exact ⟨(i + 1, some none), ⟨by omega, hC⟩, by omega, rfl⟩
                    · have hr1 := pnum_len hA
                      simp -implicitDefEqProofs only [go_sem, ↓reduceIte, reduceCtorEq, reduceDIte, Nat.reduceAdd, Nat.reduceMul, Nat.reduceSub, Nat.reduceBEq, Nat.reduceBNe, Nat.reduceBeqDiff, Nat.reduceLT, Nat.reduceLeDiff, Nat.reduceEqDiff, Nat.reduceDiv, Nat.reduceMod, Nat.reducePow, Int.reduceLT, Int.reduceLE, Int.reduceGT, Int.reduceGE, Int.reduceEq, Int.reduceNe, Int.reduceToNat, Int.reduceNeg, Int.reducePow, Int.reduceAdd, Int.reduceMul, Int.reduceSub, Int.reduceBEq, Int.reduceMod, Int.reduceDiv, Int.reduceNatCast, Nat.min_def, hlt', ei, hc, en, RNum_sl (hR8.take M) hKl, hA, readN, RBytes_sl (pnum_R8 hA (hR8.take M)) (by omega), hB, Ok_sl]
                      exact ⟨(i + 1, some (some K')), ⟨by omega, hC, hD⟩, by omega, rfl⟩
                  · dsimp only at hq
                    simp -implicitDefEqProofs only [go_sem, ↓reduceIte, reduceCtorEq, reduceDIte, Nat.reduceAdd, Nat.reduceMul, Nat.reduceSub, Nat.reduceBEq, Nat.reduceBNe, Nat.reduceBeqDiff, Nat.reduceLT, Nat.reduceLeDiff, Nat.reduceEqDiff, Nat.reduceDiv, Nat.reduceMod, Nat.reducePow, Int.reduceLT, Int.reduceLE, Int.reduceGT, Int.reduceGE, Int.reduceEq, Int.reduceNe, Int.reduceToNat, Int.reduceNeg, Int.reducePow, Int.reduceAdd, Int.reduceMul, Int.reduceSub, Int.reduceBEq, Int.reduceMod, Int.reduceDiv, Int.reduceNatCast, Nat.min_def, hlt', ei, hc, en, RNum_nils, RBytes_nils, Ok_nils]
                    exact ⟨(i + 1, some none), ⟨by omega, hq⟩, by omega, rfl⟩
                  · dsimp only at hq
                    obtain ⟨hq1, hq2⟩ := hq
                    have hKl : ((rest raw us i).take K).length ≤ 1000000000000 := by rw [List.length_take]; omega
                    rcases round (K := K) hc hc0 hc1 (by omega) hq1 with ⟨hA, hB⟩ | ⟨r1, hA, ⟨hB, hC⟩ | ⟨K', hB, hC, hD⟩⟩
                    · simp -implicitDefEqProofs only [go_sem, ↓reduceIte, reduceCtorEq, reduceDIte, Nat.reduceAdd, Nat.reduceMul, Nat.reduceSub, Nat.reduceBEq, Nat.reduceBNe, Nat.reduceBeqDiff, Nat.reduceLT, Nat.reduceLeDiff, Nat.reduceEqDiff, Nat.reduceDiv, Nat.reduceMod, Nat.reducePow, Int.reduceLT, Int.reduceLE, Int.reduceGT, Int.reduceGE, Int.reduceEq, Int.reduceNe, Int.reduceToNat, Int.reduceNeg, Int.reducePow, Int.reduceAdd, Int.reduceMul, Int.reduceSub, Int.reduceBEq, Int.reduceMod, Int.reduceDiv, Int.reduceNatCast, Nat.min_def, hlt', ei, hc, en, RNum_sl (hR8.take K) hKl, hA, readN, RBytes_nils, Ok_nils]
                      exact ⟨(i + 1, some none), ⟨by omega, by show M < full.length; omega⟩, by omega, rfl⟩
                    · have hr1 := pnum_len hA
                      simp -implicitDefEqProofs only [go_sem, ↓reduceIte, reduceCtorEq, reduceDIte, Nat.reduceAdd, Nat.reduceMul, Nat.reduceSub, Nat.reduceBEq, Nat.reduceBNe, Nat.reduceBeqDiff, Nat.reduceLT, Nat.reduceLeDiff, Nat.reduceEqDiff, Nat.reduceDiv, Nat.reduceMod, Nat.reducePow, Int.reduceLT, Int.reduceLE, Int.reduceGT, Int.reduceGE, Int.reduceEq, Int.reduceNe, Int.reduceToNat, Int.reduceNeg, Int.reducePow, Int.reduceAdd, Int.reduceMul, Int.reduceSub, Int.reduceBEq, Int.reduceMod, Int.reduceDiv, Int.reduceNatCast, Nat.min_def, hlt', ei, hc, en, RNum_sl (hR8.take K) hKl, hA, readN, RBytes_sl (pnum_R8 hA (hR8.take K)) (by omega), hB, Ok_nils]
                      exact ⟨(i + 1, some none), ⟨by omega, by show M < full.length; omega⟩, by omega, rfl⟩
                    · have hr1 := pnum_len hA
                      simp -implicitDefEqProofs only [go_sem, ↓reduceIte, reduceCtorEq, reduceDIte, Nat.reduceAdd, Nat.reduceMul, Nat.reduceSub, Nat.reduceBEq, Nat.reduceBNe, Nat.reduceBeqDiff, Nat.reduceLT, Nat.reduceLeDiff, Nat.reduceEqDiff, Nat.reduceDiv, Nat.reduceMod, Nat.reducePow, Int.reduceLT, Int.reduceLE, Int.reduceGT, Int.reduceGE, Int.reduceEq, Int.reduceNe, Int.reduceToNat, Int.reduceNeg, Int.reducePow, Int.reduceAdd, Int.reduceMul, Int.reduceSub, Int.reduceBEq, Int.reduceMod, Int.reduceDiv, Int.reduceNatCast, Nat.min_def, hlt', ei, hc, en, RNum_sl (hR8.take K) hKl, hA, readN, RBytes_sl (pnum_R8 hA (hR8.take K)) (by omega), hB, Ok_sl]
                      exact ⟨(i + 1, some (some K')), ⟨by omega, hC, by show K' + full.length = M + (rest raw us (i + 1)).length; omega⟩, by omega, rfl⟩
                · have hlt' : ¬ (i : Int) < us.length := by omega
                  have hie : i = us.length := by omega
                  have hRe : rest raw us i = num 7 := by unfold rest; rw [List.drop_eq_nil_of_le (by omega)]; rfl
                  have h7 : num 7 = [7] := num_lt (by decide) (by decide)
                  have ej : ((j : Int) + 1 + 9223372036854775808) % 18446744073709551616 - 9223372036854775808 = ((j + 1 : Nat) : Int) := by omega
                  rcases q with _ | _ | K
                  · dsimp only at hq
                    have hRi : rest raw us i = full := by rw [hq]; exact hF0
                    have hfull : full = [7] := by rw [← hRi, hRe, h7]
                    have hKl : (full.take M).length ≤ 1000000000000 := by omega
                    rcases (show M = 0 ∨ M = 1 by rw [hfull] at hM; simpa [Nat.le_one_iff_eq_zero_or_eq_one] using hM) with hm | hm
                    · have hp : pnum 0 0 (full.take M) = none := by rw [hm]; rfl
                      have hMf : ((M : Int) = full.length) = False := eq_false (by omega)
                      rw [hRi] at hR8
                      simp -implicitDefEqProofs only [go_sem, ↓reduceIte, reduceCtorEq, reduceDIte, Nat.reduceAdd, Nat.reduceMul, Nat.reduceSub, Nat.reduceBEq, Nat.reduceBNe, Nat.reduceBeqDiff, Nat.reduceLT, Nat.reduceLeDiff, Nat.reduceEqDiff, Nat.reduceDiv, Nat.reduceMod, Nat.reducePow, Int.reduceLT, Int.reduceLE, Int.reduceGT, Int.reduceGE, Int.reduceEq, Int.reduceNe, Int.reduceToNat, Int.reduceNeg, Int.reducePow, Int.reduceAdd, Int.reduceMul, Int.reduceSub, Int.reduceBEq, Int.reduceMod, Int.reduceDiv, Int.reduceNatCast, Nat.min_def, hlt', hMl, RNum_sl (hR8.take M) hKl, hp, readN, Ok_nils, hMf, Rest_nils]
                      exact ⟨j + 1, by omega, by omega, by rw [ej]⟩
                    · have hp : pnum 0 0 (full.take M) = some (7, []) := by rw [hm, hfull]; rfl
                      have hMf : ((M : Int) = full.length) = True := eq_true (by rw [hm, hfull]; rfl)
                      rw [hRi] at hR8
                      simp -implicitDefEqProofs only [go_sem, ↓reduceIte, reduceCtorEq, reduceDIte, Nat.reduceAdd, Nat.reduceMul, Nat.reduceSub, Nat.reduceBEq, Nat.reduceBNe, Nat.reduceBeqDiff, Nat.reduceLT, Nat.reduceLeDiff, Nat.reduceEqDiff, Nat.reduceDiv, Nat.reduceMod, Nat.reducePow, Int.reduceLT, Int.reduceLE, Int.reduceGT, Int.reduceGE, Int.reduceEq, Int.reduceNe, Int.reduceToNat, Int.reduceNeg, Int.reducePow, Int.reduceAdd, Int.reduceMul, Int.reduceSub, Int.reduceBEq, Int.reduceMod, Int.reduceDiv, Int.reduceNatCast, Nat.min_def, hlt', hMl, RNum_sl (hR8.take M) hKl, hp, readN, Ok_sl, hMf, Rest_sl (zs := []) (by decide)]
                      exact ⟨j + 1, by omega, by omega, by rw [ej]⟩
                  · dsimp only at hq
                    have hMf : ((M : Int) = full.length) = False := eq_false (by omega)
                    simp -implicitDefEqProofs only [go_sem, ↓reduceIte, reduceCtorEq, reduceDIte, Nat.reduceAdd, Nat.reduceMul, Nat.reduceSub, Nat.reduceBEq, Nat.reduceBNe, Nat.reduceBeqDiff, Nat.reduceLT, Nat.reduceLeDiff, Nat.reduceEqDiff, Nat.reduceDiv, Nat.reduceMod, Nat.reducePow, Int.reduceLT, Int.reduceLE, Int.reduceGT, Int.reduceGE, Int.reduceEq, Int.reduceNe, Int.reduceToNat, Int.reduceNeg, Int.reducePow, Int.reduceAdd, Int.reduceMul, Int.reduceSub, Int.reduceBEq, Int.reduceMod, Int.reduceDiv, Int.reduceNatCast, Nat.min_def, hlt', hMl, RNum_nils, Ok_nils, hMf, Rest_nils]
                    exact ⟨j + 1, by omega, by omega, by rw [ej]⟩
                  · dsimp only at hq
                    obtain ⟨hq1, hq2⟩ := hq
                    rw [hRe, h7] at hq1 hq2
                    have hl1 : ([7] : List Int).length = 1 := rfl
                    have h78 : R8 [7] := by rw [← h7]; exact num_r8 (by decide) (by decide)
                    rw [hRe, h7]
                    rcases (show K = 0 ∨ K = 1 by omega) with hm | hm
                    · have hp : pnum 0 0 (([7] : List Int).take K) = none := by rw [hm]; rfl
                      have hMf : ((M : Int) = full.length) = False := eq_false (by omega)
                      simp -implicitDefEqProofs only [go_sem, ↓reduceIte, reduceCtorEq, reduceDIte, Nat.reduceAdd, Nat.reduceMul, Nat.reduceSub, Nat.reduceBEq, Nat.reduceBNe, Nat.reduceBeqDiff, Nat.reduceLT, Nat.reduceLeDiff, Nat.reduceEqDiff, Nat.reduceDiv, Nat.reduceMod, Nat.reducePow, Int.reduceLT, Int.reduceLE, Int.reduceGT, Int.reduceGE, Int.reduceEq, Int.reduceNe, Int.reduceToNat, Int.reduceNeg, Int.reducePow, Int.reduceAdd, Int.reduceMul, Int.reduceSub, Int.reduceBEq, Int.reduceMod, Int.reduceDiv, Int.reduceNatCast, Nat.min_def, hlt', hMl, RNum_sl (h78.take K) (by rw [List.length_take]; omega), hp, readN, Ok_nils, hMf, Rest_nils]
                      exact ⟨j + 1, by omega, by omega, by rw [ej]⟩
                    · have hp : pnum 0 0 (([7] : List Int).take K) = some (7, []) := by rw [hm]; rfl
                      have hMf : ((M : Int) = full.length) = True := eq_true (by omega)
                      simp -implicitDefEqProofs only [go_sem, ↓reduceIte, reduceCtorEq, reduceDIte, Nat.reduceAdd, Nat.reduceMul, Nat.reduceSub, Nat.reduceBEq, Nat.reduceBNe, Nat.reduceBeqDiff, Nat.reduceLT, Nat.reduceLeDiff, Nat.reduceEqDiff, Nat.reduceDiv, Nat.reduceMod, Nat.reducePow, Int.reduceLT, Int.reduceLE, Int.reduceGT, Int.reduceGE, Int.reduceEq, Int.reduceNe, Int.reduceToNat, Int.reduceNeg, Int.reducePow, Int.reduceAdd, Int.reduceMul, Int.reduceSub, Int.reduceBEq, Int.reduceMod, Int.reduceDiv, Int.reduceNatCast, Nat.min_def, hlt', hMl, RNum_sl (h78.take K) (by rw [List.length_take]; omega), hp, readN, Ok_sl, hMf, Rest_sl (zs := []) (by decide)]
                      exact ⟨j + 1, by omega, by omega, by rw [ej]⟩
end Go.Proofs.Ytahhpnilblcfcaa.D
