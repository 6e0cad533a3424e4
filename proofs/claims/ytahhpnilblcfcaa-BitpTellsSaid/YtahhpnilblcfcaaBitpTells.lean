/- BitpTells: what the law comes to. -/
import Derived.Test.YtahhpnilblcfcaaBitR
import Derived.Test.YtahhpnilblcfcaaBitpWidths
namespace Go.Proofs.Ytahhpnilblcfcaa.D
open Go Go.Den
set_option linter.unusedSimpArgs false
set_option maxRecDepth 20000
set_option maxHeartbeats 8000000
theorem SameWords_nils : dw E 26 [.nils, .nils] [] = some (.bool true, []) := dw_of (k := 20) (by kernel_rfl)
theorem unpack_len {n c : Int} {zs w : List Int} (h : unpack n zs c = some w) : w.length ≤ 1000000000000 := by
  unfold unpack at h
  split at h
  · cases h
  · split at h
    · injection h with h
      subst h
      rw [unpL_length]; omega
    · cases h
theorem R8_set {zs : List Int} {x : Int} (h : R8 zs) (h0 : 0 ≤ x ∧ x < 256) (i : Nat) : R8 (zs.set i x) := fun z hz => by
  rcases List.mem_or_eq_of_mem_set hz with h1 | rfl
  · exact h z h1
  · exact h0
theorem BitpTells_spec {l raw : List Int} {n0 at' by' count i : Int} (h64 : R64 l) (hraw : R8 raw) (hby : 0 ≤ by' ∧ by' < 256) :
    dw E 9 [.sl 1 (ints .u64 l), .int .i64 n0, .sl 1 (ints .u8 raw), .int .i64 at', .int .u8 by', .int .i64 count, .int .i64 i] [] = some (.bool true, []) := by
  refine dw_intro (fn := Try.f9) rfl rfl (by decide) ?_
  by_cases h1 : 200 < raw.length
  · have h1' : 200 < (raw.length : Int) := by omega
    simp -implicitDefEqProofs only [go_sem, ↓reduceIte, reduceCtorEq, reduceDIte, Nat.reduceAdd, Nat.reduceMul, Nat.reduceSub, Nat.reduceBEq, Nat.reduceBNe, Nat.reduceBeqDiff, Nat.reduceLT, Nat.reduceLeDiff, Nat.reduceEqDiff, Nat.reduceDiv, Nat.reduceMod, Nat.reducePow, Int.reduceLT, Int.reduceLE, Int.reduceGT, Int.reduceGE, Int.reduceEq, Int.reduceNe, Int.reduceToNat, Int.reduceNeg, Int.reducePow, Int.reduceAdd, Int.reduceMul, Int.reduceSub, Int.reduceBEq, Int.reduceMod, Int.reduceDiv, Int.reduceNatCast, Nat.min_def, h1', awake1]
  · have h1' : ¬ 200 < (raw.length : Int) := by omega
    by_cases h2 : 60 < l.length
    · have h2' : 60 < (l.length : Int) := by omega
      simp -implicitDefEqProofs only [go_sem, ↓reduceIte, reduceCtorEq, reduceDIte, Nat.reduceAdd, Nat.reduceMul, Nat.reduceSub, Nat.reduceBEq, Nat.reduceBNe, Nat.reduceBeqDiff, Nat.reduceLT, Nat.reduceLeDiff, Nat.reduceEqDiff, Nat.reduceDiv, Nat.reduceMod, Nat.reducePow, Int.reduceLT, Int.reduceLE, Int.reduceGT, Int.reduceGE, Int.reduceEq, Int.reduceNe, Int.reduceToNat, Int.reduceNeg, Int.reducePow, Int.reduceAdd, Int.reduceMul, Int.reduceSub, Int.reduceBEq, Int.reduceMod, Int.reduceDiv, Int.reduceNatCast, Nat.min_def, h1', h2', awake1]
    · have h2' : ¬ 60 < (l.length : Int) := by omega
      simp -implicitDefEqProofs only [go_sem, ↓reduceIte, reduceCtorEq, reduceDIte, Nat.reduceAdd, Nat.reduceMul, Nat.reduceSub, Nat.reduceBEq, Nat.reduceBNe, Nat.reduceBeqDiff, Nat.reduceLT, Nat.reduceLeDiff, Nat.reduceEqDiff, Nat.reduceDiv, Nat.reduceMod, Nat.reducePow, Int.reduceLT, Int.reduceLE, Int.reduceGT, Int.reduceGE, Int.reduceEq, Int.reduceNe, Int.reduceToNat, Int.reduceNeg, Int.reducePow, Int.reduceAdd, Int.reduceMul, Int.reduceSub, Int.reduceBEq, Int.reduceMod, Int.reduceDiv, Int.reduceNatCast, Nat.min_def, h1', h2']
      refine runs_loop (fun s : Nat × Int => (⟨[(0, .sl 1 (ints .u64 l)), (1, .int .i64 s.2), (2, .sl 1 (ints .u8 raw)), (3, .int .i64 at'), (4, .int .u8 by'), (5, .int .i64 count), (6, .int .i64 i), (15, .int .i64 s.1)], [], 1⟩ : St)) (fun s => 2 - s.1) (0, n0) ?_
        (fun s => s.1 ≤ 2) (by show (0 : Nat) ≤ 2; omega) ?_
      · simp -implicitDefEqProofs only [go_sem, ↓reduceIte, reduceCtorEq, reduceDIte, Nat.reduceAdd, Nat.reduceMul, Nat.reduceSub, Nat.reduceBEq, Nat.reduceBNe, Nat.reduceBeqDiff, Nat.reduceLT, Nat.reduceLeDiff, Nat.reduceEqDiff, Nat.reduceDiv, Nat.reduceMod, Nat.reducePow, Int.reduceLT, Int.reduceLE, Int.reduceGT, Int.reduceGE, Int.reduceEq, Int.reduceNe, Int.reduceToNat, Int.reduceNeg, Int.reducePow, Int.reduceAdd, Int.reduceMul, Int.reduceSub, Int.reduceBEq, Int.reduceMod, Int.reduceDiv, Int.reduceNatCast, Nat.min_def]
      · rintro ⟨q, n⟩ hq
        dsimp only at hq
        by_cases hq2 : q < 2
        · have hqi : (q : Int) < 2 := by omega
          have hqe : ((q : Int) + 1 + 9223372036854775808) % 18446744073709551616 - 9223372036854775808 = ((q + 1 : Nat) : Int) := by omega
          have hm64 := heldN_le n
          obtain ⟨P, hP⟩ : ∃ P, packL (heldN n) l = P := ⟨_, rfl⟩
          have hP8 : R8 P := hP ▸ packL_R8 _ l
          have hml : heldN n * l.length ≤ 64 * 60 := Nat.mul_le_mul hm64 (by omega)
          have hPl : P.length ≤ 1000 := by rw [← hP, packL_length]; omega
          have hpk := Pack_spec (n := n) (l := l) (by omega) h64
          have hrk := RPack_spec (n := n) (l := l) (by omega) h64
          rw [hP] at hpk hrk
          have lim0 : P.length * 2 ≤ 70368744177664 := by omega
          have lim1 : (P.length + 1) * 2 ≤ 70368744177664 := by omega
          by_cases hP0 : P.length = 0
          · have hPi : ¬ 0 < (P.length : Int) := by omega
            have hPp : 0 ≤ (P.length : Int) := by omega
            obtain ⟨elems, hel⟩ : ∃ el, [raw, P, P, [], P ++ [by']] = el := ⟨_, rfl⟩
            have hel5 : elems.length = 5 := by rw [← hel]; rfl
            have hall : ∀ xs ∈ elems, R8 xs ∧ xs.length ≤ 1001 := by
              rw [← hel]
              intro xs hxs
              simp only [List.mem_cons, List.not_mem_nil, or_false] at hxs
              rcases hxs with rfl | rfl | rfl | rfl | rfl
              · exact ⟨hraw, by omega⟩
              · exact ⟨hP8, by omega⟩
              · exact ⟨hP8, by omega⟩
              · exact ⟨fun z hz => by simp at hz, by simp⟩
              · exact ⟨hP8.append (fun z hz => by simp at hz; subst hz; exact hby), by simp; omega⟩
            simp -implicitDefEqProofs only [go_sem, ↓reduceIte, reduceCtorEq, reduceDIte, Nat.reduceAdd, Nat.reduceMul, Nat.reduceSub, Nat.reduceBEq, Nat.reduceBNe, Nat.reduceBeqDiff, Nat.reduceLT, Nat.reduceLeDiff, Nat.reduceEqDiff, Nat.reduceDiv, Nat.reduceMod, Nat.reducePow, Int.reduceLT, Int.reduceLE, Int.reduceGT, Int.reduceGE, Int.reduceEq, Int.reduceNe, Int.reduceToNat, Int.reduceNeg, Int.reducePow, Int.reduceAdd, Int.reduceMul, Int.reduceSub, Int.reduceBEq, Int.reduceMod, Int.reduceDiv, Int.reduceNatCast, Nat.min_def, hqi, hpk, hrk, lim0, lim1, hPi, hPp, Nat.zero_add]
            refine ⟨by change _ = true; kernel_rfl, by change _ = true; kernel_rfl, ?_⟩
            refine runs_loop (fun e : Nat => (⟨[(0, .sl 1 (ints .u64 l)), (1, .int .i64 n), (2, .sl 1 (ints .u8 raw)), (3, .int .i64 at'), (4, .int .u8 by'), (5, .int .i64 count), (6, .int .i64 i), (15, .int .i64 q), (85, .h 2102592), (86, .int .i64 5), (87, .int .i64 e)], [(2102592, some ⟨true, .row 27 1 (elems.map fun xs => [.sl 1 (ints .u8 xs)])⟩)], 1⟩ : St)) (fun e => 5 - e) 0 ?_
              (fun e => e ≤ 5) (by omega) ?_
            · simp -implicitDefEqProofs only [go_sem, ↓reduceIte, reduceCtorEq, reduceDIte, Nat.reduceAdd, Nat.reduceMul, Nat.reduceSub, Nat.reduceBEq, Nat.reduceBNe, Nat.reduceBeqDiff, Nat.reduceLT, Nat.reduceLeDiff, Nat.reduceEqDiff, Nat.reduceDiv, Nat.reduceMod, Nat.reducePow, Int.reduceLT, Int.reduceLE, Int.reduceGT, Int.reduceGE, Int.reduceEq, Int.reduceNe, Int.reduceToNat, Int.reduceNeg, Int.reducePow, Int.reduceAdd, Int.reduceMul, Int.reduceSub, Int.reduceBEq, Int.reduceMod, Int.reduceDiv, Int.reduceNatCast, Nat.min_def, ← hel] <;> rfl
            · intro e he
              by_cases he5 : e < 5
              · obtain ⟨xs, hxs⟩ : ∃ xs, elems[e]? = some xs := ⟨_, List.getElem?_eq_getElem (by omega)⟩
                obtain ⟨h8, hxl⟩ := hall xs (List.mem_of_getElem? hxs)
                have hei : (e : Int) < 5 := by omega
                have he0 : 0 ≤ (e : Int) := by omega
                have hen : e < elems.length := by omega
                have hee : ((e : Int) + 1 + 9223372036854775808) % 18446744073709551616 - 9223372036854775808 = ((e + 1 : Nat) : Int) := by omega
                obtain ⟨cs, hcs⟩ : ∃ cs, [(l.length : Int), count, count % 64] = cs := ⟨_, rfl⟩
                have hcl : cs.length = 3 := by rw [← hcs]; rfl
                simp -implicitDefEqProofs only [go_sem, ↓reduceIte, reduceCtorEq, reduceDIte, Nat.reduceAdd, Nat.reduceMul, Nat.reduceSub, Nat.reduceBEq, Nat.reduceBNe, Nat.reduceBeqDiff, Nat.reduceLT, Nat.reduceLeDiff, Nat.reduceEqDiff, Nat.reduceDiv, Nat.reduceMod, Nat.reducePow, Int.reduceLT, Int.reduceLE, Int.reduceGT, Int.reduceGE, Int.reduceEq, Int.reduceNe, Int.reduceToNat, Int.reduceNeg, Int.reducePow, Int.reduceAdd, Int.reduceMul, Int.reduceSub, Int.reduceBEq, Int.reduceMod, Int.reduceDiv, Int.reduceNatCast, Nat.min_def, hei, he0, hen, hxs, hcs]
                refine runs_loop (fun c : Nat => (⟨[(0, .sl 1 (ints .u64 l)), (1, .int .i64 n), (2, .sl 1 (ints .u8 raw)), (3, .int .i64 at'), (4, .int .u8 by'), (5, .int .i64 count), (6, .int .i64 i), (15, .int .i64 q), (20, .sl 1 (ints .u8 xs)), (85, .h 2102592), (86, .int .i64 5), (87, .int .i64 e), (96, .h 2103296), (97, .int .i64 3), (98, .int .i64 c)], [(2102592, some ⟨true, .row 27 1 (elems.map fun xs => [.sl 1 (ints .u8 xs)])⟩), (2103296, some ⟨true, .row 3 1 (ints .i64 cs)⟩)], 1⟩ : St)) (fun c => 3 - c) 0 ?_
                  (fun c => c ≤ 3) (by omega) ?_
                · simp -implicitDefEqProofs only [go_sem, ↓reduceIte, reduceCtorEq, reduceDIte, Nat.reduceAdd, Nat.reduceMul, Nat.reduceSub, Nat.reduceBEq, Nat.reduceBNe, Nat.reduceBeqDiff, Nat.reduceLT, Nat.reduceLeDiff, Nat.reduceEqDiff, Nat.reduceDiv, Nat.reduceMod, Nat.reducePow, Int.reduceLT, Int.reduceLE, Int.reduceGT, Int.reduceGE, Int.reduceEq, Int.reduceNe, Int.reduceToNat, Int.reduceNeg, Int.reducePow, Int.reduceAdd, Int.reduceMul, Int.reduceSub, Int.reduceBEq, Int.reduceMod, Int.reduceDiv, Int.reduceNatCast, Nat.min_def, hcl]
                · intro c hc
                  by_cases hc3 : c < 3
                  · obtain ⟨z, hz⟩ : ∃ z, cs[c]? = some z := ⟨_, List.getElem?_eq_getElem (by omega)⟩
                    have hci : (c : Int) < 3 := by omega
                    have hc0 : 0 ≤ (c : Int) := by omega
                    have hcn : c < cs.length := by omega
                    have hce : ((c : Int) + 1 + 9223372036854775808) % 18446744073709551616 - 9223372036854775808 = ((c + 1 : Nat) : Int) := by omega
                    cases hu : unpack n xs z with
                    | none =>
                      simp -implicitDefEqProofs only [go_sem, ↓reduceIte, reduceCtorEq, reduceDIte, Nat.reduceAdd, Nat.reduceMul, Nat.reduceSub, Nat.reduceBEq, Nat.reduceBNe, Nat.reduceBeqDiff, Nat.reduceLT, Nat.reduceLeDiff, Nat.reduceEqDiff, Nat.reduceDiv, Nat.reduceMod, Nat.reducePow, Int.reduceLT, Int.reduceLE, Int.reduceGT, Int.reduceGE, Int.reduceEq, Int.reduceNe, Int.reduceToNat, Int.reduceNeg, Int.reducePow, Int.reduceAdd, Int.reduceMul, Int.reduceSub, Int.reduceBEq, Int.reduceMod, Int.reduceDiv, Int.reduceNatCast, Nat.min_def, hci, hc0, hcn, hz, Unpack_spec h8 (by omega), RUnpack_spec h8 (by omega), hu, resU, SameWords_nils, hce]
                      exact ⟨c + 1, by omega, by omega, rfl⟩
                    | some ws =>
                      have hwl : ws.length ≤ 1000000000000 := unpack_len hu
                      simp -implicitDefEqProofs only [go_sem, ↓reduceIte, reduceCtorEq, reduceDIte, Nat.reduceAdd, Nat.reduceMul, Nat.reduceSub, Nat.reduceBEq, Nat.reduceBNe, Nat.reduceBeqDiff, Nat.reduceLT, Nat.reduceLeDiff, Nat.reduceEqDiff, Nat.reduceDiv, Nat.reduceMod, Nat.reducePow, Int.reduceLT, Int.reduceLE, Int.reduceGT, Int.reduceGE, Int.reduceEq, Int.reduceNe, Int.reduceToNat, Int.reduceNeg, Int.reducePow, Int.reduceAdd, Int.reduceMul, Int.reduceSub, Int.reduceBEq, Int.reduceMod, Int.reduceDiv, Int.reduceNatCast, Nat.min_def, hci, hc0, hcn, hz, Unpack_spec h8 (by omega), RUnpack_spec h8 (by omega), hu, resU, SameWords_spec (a := ws) (b := ws) hwl, hce]
                      exact ⟨c + 1, by omega, by omega, rfl⟩
                  · have hci : ¬ (c : Int) < 3 := by omega
                    obtain ⟨ps, hps⟩ : ∃ ps, [i, i % 64, ((l.length : Int) - 1 + 9223372036854775808) % 18446744073709551616 - 9223372036854775808] = ps := ⟨_, rfl⟩
                    have hpl : ps.length = 3 := by rw [← hps]; rfl
                    simp -implicitDefEqProofs only [go_sem, ↓reduceIte, reduceCtorEq, reduceDIte, Nat.reduceAdd, Nat.reduceMul, Nat.reduceSub, Nat.reduceBEq, Nat.reduceBNe, Nat.reduceBeqDiff, Nat.reduceLT, Nat.reduceLeDiff, Nat.reduceEqDiff, Nat.reduceDiv, Nat.reduceMod, Nat.reducePow, Int.reduceLT, Int.reduceLE, Int.reduceGT, Int.reduceGE, Int.reduceEq, Int.reduceNe, Int.reduceToNat, Int.reduceNeg, Int.reducePow, Int.reduceAdd, Int.reduceMul, Int.reduceSub, Int.reduceBEq, Int.reduceMod, Int.reduceDiv, Int.reduceNatCast, Nat.min_def, hci, hps]
                    refine runs_loop (fun c : Nat => (⟨[(0, .sl 1 (ints .u64 l)), (1, .int .i64 n), (2, .sl 1 (ints .u8 raw)), (3, .int .i64 at'), (4, .int .u8 by'), (5, .int .i64 count), (6, .int .i64 i), (15, .int .i64 q), (20, .sl 1 (ints .u8 xs)), (85, .h 2102592), (86, .int .i64 5), (87, .int .i64 e), (132, .h 2105600), (133, .int .i64 3), (134, .int .i64 c)], [(2102592, some ⟨true, .row 27 1 (elems.map fun xs => [.sl 1 (ints .u8 xs)])⟩), (2105600, some ⟨true, .row 3 1 (ints .i64 ps)⟩)], 1⟩ : St)) (fun c => 3 - c) 0 ?_
                      (fun c => c ≤ 3) (by omega) ?_
                    · simp -implicitDefEqProofs only [go_sem, ↓reduceIte, reduceCtorEq, reduceDIte, Nat.reduceAdd, Nat.reduceMul, Nat.reduceSub, Nat.reduceBEq, Nat.reduceBNe, Nat.reduceBeqDiff, Nat.reduceLT, Nat.reduceLeDiff, Nat.reduceEqDiff, Nat.reduceDiv, Nat.reduceMod, Nat.reducePow, Int.reduceLT, Int.reduceLE, Int.reduceGT, Int.reduceGE, Int.reduceEq, Int.reduceNe, Int.reduceToNat, Int.reduceNeg, Int.reducePow, Int.reduceAdd, Int.reduceMul, Int.reduceSub, Int.reduceBEq, Int.reduceMod, Int.reduceDiv, Int.reduceNatCast, Nat.min_def, hpl]
                    · intro p hp
                      by_cases hp3 : p < 3
                      · obtain ⟨z, hz⟩ : ∃ z, ps[p]? = some z := ⟨_, List.getElem?_eq_getElem (by omega)⟩
                        have hpi : (p : Int) < 3 := by omega
                        have hp0 : 0 ≤ (p : Int) := by omega
                        have hpn : p < ps.length := by omega
                        have hpe : ((p : Int) + 1 + 9223372036854775808) % 18446744073709551616 - 9223372036854775808 = ((p + 1 : Nat) : Int) := by omega
                        cases ha : atB n xs z with
                        | none =>
                          simp -implicitDefEqProofs only [go_sem, ↓reduceIte, reduceCtorEq, reduceDIte, Nat.reduceAdd, Nat.reduceMul, Nat.reduceSub, Nat.reduceBEq, Nat.reduceBNe, Nat.reduceBeqDiff, Nat.reduceLT, Nat.reduceLeDiff, Nat.reduceEqDiff, Nat.reduceDiv, Nat.reduceMod, Nat.reducePow, Int.reduceLT, Int.reduceLE, Int.reduceGT, Int.reduceGE, Int.reduceEq, Int.reduceNe, Int.reduceToNat, Int.reduceNeg, Int.reducePow, Int.reduceAdd, Int.reduceMul, Int.reduceSub, Int.reduceBEq, Int.reduceMod, Int.reduceDiv, Int.reduceNatCast, Nat.min_def, hpi, hp0, hpn, hz, At_spec h8 (by omega), RAt_spec h8 (by omega), ha, resA, hpe]
                          exact ⟨p + 1, by omega, by omega, rfl⟩
                        | some v =>
                          simp -implicitDefEqProofs only [go_sem, ↓reduceIte, reduceCtorEq, reduceDIte, Nat.reduceAdd, Nat.reduceMul, Nat.reduceSub, Nat.reduceBEq, Nat.reduceBNe, Nat.reduceBeqDiff, Nat.reduceLT, Nat.reduceLeDiff, Nat.reduceEqDiff, Nat.reduceDiv, Nat.reduceMod, Nat.reducePow, Int.reduceLT, Int.reduceLE, Int.reduceGT, Int.reduceGE, Int.reduceEq, Int.reduceNe, Int.reduceToNat, Int.reduceNeg, Int.reducePow, Int.reduceAdd, Int.reduceMul, Int.reduceSub, Int.reduceBEq, Int.reduceMod, Int.reduceDiv, Int.reduceNatCast, Nat.min_def, hpi, hp0, hpn, hz, At_spec h8 (by omega), RAt_spec h8 (by omega), ha, resA, hpe]
                          exact ⟨p + 1, by omega, by omega, rfl⟩
                      · have hpi : ¬ (p : Int) < 3 := by omega
                        simp -implicitDefEqProofs only [go_sem, ↓reduceIte, reduceCtorEq, reduceDIte, Nat.reduceAdd, Nat.reduceMul, Nat.reduceSub, Nat.reduceBEq, Nat.reduceBNe, Nat.reduceBeqDiff, Nat.reduceLT, Nat.reduceLeDiff, Nat.reduceEqDiff, Nat.reduceDiv, Nat.reduceMod, Nat.reducePow, Int.reduceLT, Int.reduceLE, Int.reduceGT, Int.reduceGE, Int.reduceEq, Int.reduceNe, Int.reduceToNat, Int.reduceNeg, Int.reducePow, Int.reduceAdd, Int.reduceMul, Int.reduceSub, Int.reduceBEq, Int.reduceMod, Int.reduceDiv, Int.reduceNatCast, Nat.min_def, hpi, hee]
                        exact ⟨e + 1, by omega, by omega, rfl⟩
              · have hei : ¬ (e : Int) < 5 := by omega
                simp -implicitDefEqProofs only [go_sem, ↓reduceIte, reduceCtorEq, reduceDIte, Nat.reduceAdd, Nat.reduceMul, Nat.reduceSub, Nat.reduceBEq, Nat.reduceBNe, Nat.reduceBeqDiff, Nat.reduceLT, Nat.reduceLeDiff, Nat.reduceEqDiff, Nat.reduceDiv, Nat.reduceMod, Nat.reducePow, Int.reduceLT, Int.reduceLE, Int.reduceGT, Int.reduceGE, Int.reduceEq, Int.reduceNe, Int.reduceToNat, Int.reduceNeg, Int.reducePow, Int.reduceAdd, Int.reduceMul, Int.reduceSub, Int.reduceBEq, Int.reduceMod, Int.reduceDiv, Int.reduceNatCast, Nat.min_def, hei, hqe]
                exact ⟨(q + 1, n % 128), by show q + 1 ≤ 2; omega, by show 2 - (q + 1) < 2 - q; omega, rfl⟩
          · have hPi : 0 < (P.length : Int) := by omega
            have hPz : ((P.length : Int) = 0) = False := eq_false (by omega)
            have h16 := Int.emod_lt_of_pos at' (show (0 : Int) < 65536 by decide)
            have h160 := Int.emod_nonneg at' (show (65536 : Int) ≠ 0 by decide)
            obtain ⟨k, hk, hkl⟩ : ∃ k : Nat, (at' % 65536).tmod P.length = k ∧ k < P.length := by
              rw [Int.tmod_eq_emod_of_nonneg h160]
              have := Int.emod_lt_of_pos (at' % 65536) (b := P.length) (by omega)
              have := Int.emod_nonneg (at' % 65536) (b := P.length) (by omega)
              exact ⟨(at' % 65536 % P.length).toNat, by omega, by omega⟩
            have hk0 : 0 ≤ (k : Int) := by omega
            have hkl' : (k : Int) ≤ P.length := by omega
            obtain ⟨y, hy⟩ : ∃ y, P[k]? = some y := ⟨_, List.getElem?_eq_getElem hkl⟩
            obtain ⟨elems, hel⟩ : ∃ el, [raw, P, P.set k by', P.take k, P ++ [by']] = el := ⟨_, rfl⟩
            have hel5 : elems.length = 5 := by rw [← hel]; rfl
            have hall : ∀ xs ∈ elems, R8 xs ∧ xs.length ≤ 1001 := by
              rw [← hel]
              intro xs hxs
              simp only [List.mem_cons, List.not_mem_nil, or_false] at hxs
              rcases hxs with rfl | rfl | rfl | rfl | rfl
              · exact ⟨hraw, by omega⟩
              · exact ⟨hP8, by omega⟩
              · exact ⟨R8_set hP8 hby k, by rw [List.length_set]; omega⟩
              · exact ⟨hP8.take k, by rw [List.length_take]; omega⟩
              · exact ⟨hP8.append (fun z hz => by simp at hz; subst hz; exact hby), by simp; omega⟩
            simp -implicitDefEqProofs only [go_sem, ↓reduceIte, reduceCtorEq, reduceDIte, Nat.reduceAdd, Nat.reduceMul, Nat.reduceSub, Nat.reduceBEq, Nat.reduceBNe, Nat.reduceBeqDiff, Nat.reduceLT, Nat.reduceLeDiff, Nat.reduceEqDiff, Nat.reduceDiv, Nat.reduceMod, Nat.reducePow, Int.reduceLT, Int.reduceLE, Int.reduceGT, Int.reduceGE, Int.reduceEq, Int.reduceNe, Int.reduceToNat, Int.reduceNeg, Int.reducePow, Int.reduceAdd, Int.reduceMul, Int.reduceSub, Int.reduceBEq, Int.reduceMod, Int.reduceDiv, Int.reduceNatCast, Nat.min_def, hqi, hpk, hrk, lim0, lim1, hPi, hPz, hk, hk0, hkl, hkl', hy, Nat.zero_add]
            refine ⟨by change _ = true; kernel_rfl, by change _ = true; kernel_rfl, ?_⟩
            refine runs_loop (fun e : Nat => (⟨[(0, .sl 1 (ints .u64 l)), (1, .int .i64 n), (2, .sl 1 (ints .u8 raw)), (3, .int .i64 at'), (4, .int .u8 by'), (5, .int .i64 count), (6, .int .i64 i), (15, .int .i64 q), (85, .h 2102592), (86, .int .i64 5), (87, .int .i64 e)], [(2102592, some ⟨true, .row 27 1 (elems.map fun xs => [.sl 1 (ints .u8 xs)])⟩)], 1⟩ : St)) (fun e => 5 - e) 0 ?_
              (fun e => e ≤ 5) (by omega) ?_
            · simp -implicitDefEqProofs only [go_sem, ↓reduceIte, reduceCtorEq, reduceDIte, Nat.reduceAdd, Nat.reduceMul, Nat.reduceSub, Nat.reduceBEq, Nat.reduceBNe, Nat.reduceBeqDiff, Nat.reduceLT, Nat.reduceLeDiff, Nat.reduceEqDiff, Nat.reduceDiv, Nat.reduceMod, Nat.reducePow, Int.reduceLT, Int.reduceLE, Int.reduceGT, Int.reduceGE, Int.reduceEq, Int.reduceNe, Int.reduceToNat, Int.reduceNeg, Int.reducePow, Int.reduceAdd, Int.reduceMul, Int.reduceSub, Int.reduceBEq, Int.reduceMod, Int.reduceDiv, Int.reduceNatCast, Nat.min_def, ← hel] <;> rfl
            · intro e he
              by_cases he5 : e < 5
              · obtain ⟨xs, hxs⟩ : ∃ xs, elems[e]? = some xs := ⟨_, List.getElem?_eq_getElem (by omega)⟩
                obtain ⟨h8, hxl⟩ := hall xs (List.mem_of_getElem? hxs)
                have hei : (e : Int) < 5 := by omega
                have he0 : 0 ≤ (e : Int) := by omega
                have hen : e < elems.length := by omega
                have hee : ((e : Int) + 1 + 9223372036854775808) % 18446744073709551616 - 9223372036854775808 = ((e + 1 : Nat) : Int) := by omega
                obtain ⟨cs, hcs⟩ : ∃ cs, [(l.length : Int), count, count % 64] = cs := ⟨_, rfl⟩
                have hcl : cs.length = 3 := by rw [← hcs]; rfl
                simp -implicitDefEqProofs only [go_sem, ↓reduceIte, reduceCtorEq, reduceDIte, Nat.reduceAdd, Nat.reduceMul, Nat.reduceSub, Nat.reduceBEq, Nat.reduceBNe, Nat.reduceBeqDiff, Nat.reduceLT, Nat.reduceLeDiff, Nat.reduceEqDiff, Nat.reduceDiv, Nat.reduceMod, Nat.reducePow, Int.reduceLT, Int.reduceLE, Int.reduceGT, Int.reduceGE, Int.reduceEq, Int.reduceNe, Int.reduceToNat, Int.reduceNeg, Int.reducePow, Int.reduceAdd, Int.reduceMul, Int.reduceSub, Int.reduceBEq, Int.reduceMod, Int.reduceDiv, Int.reduceNatCast, Nat.min_def, hei, he0, hen, hxs, hcs]
                refine runs_loop (fun c : Nat => (⟨[(0, .sl 1 (ints .u64 l)), (1, .int .i64 n), (2, .sl 1 (ints .u8 raw)), (3, .int .i64 at'), (4, .int .u8 by'), (5, .int .i64 count), (6, .int .i64 i), (15, .int .i64 q), (20, .sl 1 (ints .u8 xs)), (85, .h 2102592), (86, .int .i64 5), (87, .int .i64 e), (96, .h 2103296), (97, .int .i64 3), (98, .int .i64 c)], [(2102592, some ⟨true, .row 27 1 (elems.map fun xs => [.sl 1 (ints .u8 xs)])⟩), (2103296, some ⟨true, .row 3 1 (ints .i64 cs)⟩)], 1⟩ : St)) (fun c => 3 - c) 0 ?_
                  (fun c => c ≤ 3) (by omega) ?_
                · simp -implicitDefEqProofs only [go_sem, ↓reduceIte, reduceCtorEq, reduceDIte, Nat.reduceAdd, Nat.reduceMul, Nat.reduceSub, Nat.reduceBEq, Nat.reduceBNe, Nat.reduceBeqDiff, Nat.reduceLT, Nat.reduceLeDiff, Nat.reduceEqDiff, Nat.reduceDiv, Nat.reduceMod, Nat.reducePow, Int.reduceLT, Int.reduceLE, Int.reduceGT, Int.reduceGE, Int.reduceEq, Int.reduceNe, Int.reduceToNat, Int.reduceNeg, Int.reducePow, Int.reduceAdd, Int.reduceMul, Int.reduceSub, Int.reduceBEq, Int.reduceMod, Int.reduceDiv, Int.reduceNatCast, Nat.min_def, hcl]
                · intro c hc
                  by_cases hc3 : c < 3
                  · obtain ⟨z, hz⟩ : ∃ z, cs[c]? = some z := ⟨_, List.getElem?_eq_getElem (by omega)⟩
                    have hci : (c : Int) < 3 := by omega
                    have hc0 : 0 ≤ (c : Int) := by omega
                    have hcn : c < cs.length := by omega
                    have hce : ((c : Int) + 1 + 9223372036854775808) % 18446744073709551616 - 9223372036854775808 = ((c + 1 : Nat) : Int) := by omega
                    cases hu : unpack n xs z with
                    | none =>
                      simp -implicitDefEqProofs only [go_sem, ↓reduceIte, reduceCtorEq, reduceDIte, Nat.reduceAdd, Nat.reduceMul, Nat.reduceSub, Nat.reduceBEq, Nat.reduceBNe, Nat.reduceBeqDiff, Nat.reduceLT, Nat.reduceLeDiff, Nat.reduceEqDiff, Nat.reduceDiv, Nat.reduceMod, Nat.reducePow, Int.reduceLT, Int.reduceLE, Int.reduceGT, Int.reduceGE, Int.reduceEq, Int.reduceNe, Int.reduceToNat, Int.reduceNeg, Int.reducePow, Int.reduceAdd, Int.reduceMul, Int.reduceSub, Int.reduceBEq, Int.reduceMod, Int.reduceDiv, Int.reduceNatCast, Nat.min_def, hci, hc0, hcn, hz, Unpack_spec h8 (by omega), RUnpack_spec h8 (by omega), hu, resU, SameWords_nils, hce]
                      exact ⟨c + 1, by omega, by omega, rfl⟩
                    | some ws =>
                      have hwl : ws.length ≤ 1000000000000 := unpack_len hu
                      simp -implicitDefEqProofs only [go_sem, ↓reduceIte, reduceCtorEq, reduceDIte, Nat.reduceAdd, Nat.reduceMul, Nat.reduceSub, Nat.reduceBEq, Nat.reduceBNe, Nat.reduceBeqDiff, Nat.reduceLT, Nat.reduceLeDiff, Nat.reduceEqDiff, Nat.reduceDiv, Nat.reduceMod, Nat.reducePow, Int.reduceLT, Int.reduceLE, Int.reduceGT, Int.reduceGE, Int.reduceEq, Int.reduceNe, Int.reduceToNat, Int.reduceNeg, Int.reducePow, Int.reduceAdd, Int.reduceMul, Int.reduceSub, Int.reduceBEq, Int.reduceMod, Int.reduceDiv, Int.reduceNatCast, Nat.min_def, hci, hc0, hcn, hz, Unpack_spec h8 (by omega), RUnpack_spec h8 (by omega), hu, resU, SameWords_spec (a := ws) (b := ws) hwl, hce]
                      exact ⟨c + 1, by omega, by omega, rfl⟩
                  · have hci : ¬ (c : Int) < 3 := by omega
                    obtain ⟨ps, hps⟩ : ∃ ps, [i, i % 64, ((l.length : Int) - 1 + 9223372036854775808) % 18446744073709551616 - 9223372036854775808] = ps := ⟨_, rfl⟩
                    have hpl : ps.length = 3 := by rw [← hps]; rfl
                    simp -implicitDefEqProofs only [go_sem, ↓reduceIte, reduceCtorEq, reduceDIte, Nat.reduceAdd, Nat.reduceMul, Nat.reduceSub, Nat.reduceBEq, Nat.reduceBNe, Nat.reduceBeqDiff, Nat.reduceLT, Nat.reduceLeDiff, Nat.reduceEqDiff, Nat.reduceDiv, Nat.reduceMod, Nat.reducePow, Int.reduceLT, Int.reduceLE, Int.reduceGT, Int.reduceGE, Int.reduceEq, Int.reduceNe, Int.reduceToNat, Int.reduceNeg, Int.reducePow, Int.reduceAdd, Int.reduceMul, Int.reduceSub, Int.reduceBEq, Int.reduceMod, Int.reduceDiv, Int.reduceNatCast, Nat.min_def, hci, hps]
                    refine runs_loop (fun c : Nat => (⟨[(0, .sl 1 (ints .u64 l)), (1, .int .i64 n), (2, .sl 1 (ints .u8 raw)), (3, .int .i64 at'), (4, .int .u8 by'), (5, .int .i64 count), (6, .int .i64 i), (15, .int .i64 q), (20, .sl 1 (ints .u8 xs)), (85, .h 2102592), (86, .int .i64 5), (87, .int .i64 e), (132, .h 2105600), (133, .int .i64 3), (134, .int .i64 c)], [(2102592, some ⟨true, .row 27 1 (elems.map fun xs => [.sl 1 (ints .u8 xs)])⟩), (2105600, some ⟨true, .row 3 1 (ints .i64 ps)⟩)], 1⟩ : St)) (fun c => 3 - c) 0 ?_
                      (fun c => c ≤ 3) (by omega) ?_
                    · simp -implicitDefEqProofs only [go_sem, ↓reduceIte, reduceCtorEq, reduceDIte, Nat.reduceAdd, Nat.reduceMul, Nat.reduceSub, Nat.reduceBEq, Nat.reduceBNe, Nat.reduceBeqDiff, Nat.reduceLT, Nat.reduceLeDiff, Nat.reduceEqDiff, Nat.reduceDiv, Nat.reduceMod, Nat.reducePow, Int.reduceLT, Int.reduceLE, Int.reduceGT, Int.reduceGE, Int.reduceEq, Int.reduceNe, Int.reduceToNat, Int.reduceNeg, Int.reducePow, Int.reduceAdd, Int.reduceMul, Int.reduceSub, Int.reduceBEq, Int.reduceMod, Int.reduceDiv, Int.reduceNatCast, Nat.min_def, hpl]
                    · intro p hp
                      by_cases hp3 : p < 3
                      · obtain ⟨z, hz⟩ : ∃ z, ps[p]? = some z := ⟨_, List.getElem?_eq_getElem (by omega)⟩
                        have hpi : (p : Int) < 3 := by omega
                        have hp0 : 0 ≤ (p : Int) := by omega
                        have hpn : p < ps.length := by omega
                        have hpe : ((p : Int) + 1 + 9223372036854775808) % 18446744073709551616 - 9223372036854775808 = ((p + 1 : Nat) : Int) := by omega
                        cases ha : atB n xs z with
                        | none =>
                          simp -implicitDefEqProofs only [go_sem, ↓reduceIte, reduceCtorEq, reduceDIte, Nat.reduceAdd, Nat.reduceMul, Nat.reduceSub, Nat.reduceBEq, Nat.reduceBNe, Nat.reduceBeqDiff, Nat.reduceLT, Nat.reduceLeDiff, Nat.reduceEqDiff, Nat.reduceDiv, Nat.reduceMod, Nat.reducePow, Int.reduceLT, Int.reduceLE, Int.reduceGT, Int.reduceGE, Int.reduceEq, Int.reduceNe, Int.reduceToNat, Int.reduceNeg, Int.reducePow, Int.reduceAdd, Int.reduceMul, Int.reduceSub, Int.reduceBEq, Int.reduceMod, Int.reduceDiv, Int.reduceNatCast, Nat.min_def, hpi, hp0, hpn, hz, At_spec h8 (by omega), RAt_spec h8 (by omega), ha, resA, hpe]
                          exact ⟨p + 1, by omega, by omega, rfl⟩
                        | some v =>
                          simp -implicitDefEqProofs only [go_sem, ↓reduceIte, reduceCtorEq, reduceDIte, Nat.reduceAdd, Nat.reduceMul, Nat.reduceSub, Nat.reduceBEq, Nat.reduceBNe, Nat.reduceBeqDiff, Nat.reduceLT, Nat.reduceLeDiff, Nat.reduceEqDiff, Nat.reduceDiv, Nat.reduceMod, Nat.reducePow, Int.reduceLT, Int.reduceLE, Int.reduceGT, Int.reduceGE, Int.reduceEq, Int.reduceNe, Int.reduceToNat, Int.reduceNeg, Int.reducePow, Int.reduceAdd, Int.reduceMul, Int.reduceSub, Int.reduceBEq, Int.reduceMod, Int.reduceDiv, Int.reduceNatCast, Nat.min_def, hpi, hp0, hpn, hz, At_spec h8 (by omega), RAt_spec h8 (by omega), ha, resA, hpe]
                          exact ⟨p + 1, by omega, by omega, rfl⟩
                      · have hpi : ¬ (p : Int) < 3 := by omega
                        simp -implicitDefEqProofs only [go_sem, ↓reduceIte, reduceCtorEq, reduceDIte, Nat.reduceAdd, Nat.reduceMul, Nat.reduceSub, Nat.reduceBEq, Nat.reduceBNe, Nat.reduceBeqDiff, Nat.reduceLT, Nat.reduceLeDiff, Nat.reduceEqDiff, Nat.reduceDiv, Nat.reduceMod, Nat.reducePow, Int.reduceLT, Int.reduceLE, Int.reduceGT, Int.reduceGE, Int.reduceEq, Int.reduceNe, Int.reduceToNat, Int.reduceNeg, Int.reducePow, Int.reduceAdd, Int.reduceMul, Int.reduceSub, Int.reduceBEq, Int.reduceMod, Int.reduceDiv, Int.reduceNatCast, Nat.min_def, hpi, hee]
                        exact ⟨e + 1, by omega, by omega, rfl⟩
              · have hei : ¬ (e : Int) < 5 := by omega
                simp -implicitDefEqProofs only [go_sem, ↓reduceIte, reduceCtorEq, reduceDIte, Nat.reduceAdd, Nat.reduceMul, Nat.reduceSub, Nat.reduceBEq, Nat.reduceBNe, Nat.reduceBeqDiff, Nat.reduceLT, Nat.reduceLeDiff, Nat.reduceEqDiff, Nat.reduceDiv, Nat.reduceMod, Nat.reducePow, Int.reduceLT, Int.reduceLE, Int.reduceGT, Int.reduceGE, Int.reduceEq, Int.reduceNe, Int.reduceToNat, Int.reduceNeg, Int.reducePow, Int.reduceAdd, Int.reduceMul, Int.reduceSub, Int.reduceBEq, Int.reduceMod, Int.reduceDiv, Int.reduceNatCast, Nat.min_def, hei, hqe]
                exact ⟨(q + 1, n % 128), by show q + 1 ≤ 2; omega, by show 2 - (q + 1) < 2 - q; omega, rfl⟩
        · have hqi : ¬ (q : Int) < 2 := by omega
          simp -implicitDefEqProofs only [go_sem, ↓reduceIte, reduceCtorEq, reduceDIte, Nat.reduceAdd, Nat.reduceMul, Nat.reduceSub, Nat.reduceBEq, Nat.reduceBNe, Nat.reduceBeqDiff, Nat.reduceLT, Nat.reduceLeDiff, Nat.reduceEqDiff, Nat.reduceDiv, Nat.reduceMod, Nat.reducePow, Int.reduceLT, Int.reduceLE, Int.reduceGT, Int.reduceGE, Int.reduceEq, Int.reduceNe, Int.reduceToNat, Int.reduceNeg, Int.reducePow, Int.reduceAdd, Int.reduceMul, Int.reduceSub, Int.reduceBEq, Int.reduceMod, Int.reduceDiv, Int.reduceNatCast, Nat.min_def, hqi]
          refine runs_loop (fun j : Nat => (⟨[(164, .sl 1 (ints .u64 l)), (165, .int .i64 l.length), (166, .int .i64 j)], [], 1⟩ : St)) (fun j => l.length - j) 0 ?_
            (fun j => j ≤ l.length) (by omega) ?_
          · simp -implicitDefEqProofs only [go_sem, ↓reduceIte, reduceCtorEq, reduceDIte, Nat.reduceAdd, Nat.reduceMul, Nat.reduceSub, Nat.reduceBEq, Nat.reduceBNe, Nat.reduceBeqDiff, Nat.reduceLT, Nat.reduceLeDiff, Nat.reduceEqDiff, Nat.reduceDiv, Nat.reduceMod, Nat.reducePow, Int.reduceLT, Int.reduceLE, Int.reduceGT, Int.reduceGE, Int.reduceEq, Int.reduceNe, Int.reduceToNat, Int.reduceNeg, Int.reducePow, Int.reduceAdd, Int.reduceMul, Int.reduceSub, Int.reduceBEq, Int.reduceMod, Int.reduceDiv, Int.reduceNatCast, Nat.min_def]
          · intro j hj
            by_cases hlt : j < l.length
            · obtain ⟨u, hc⟩ : ∃ u, l[j]? = some u := ⟨_, List.getElem?_eq_getElem hlt⟩
              obtain ⟨hc0, hc1⟩ := h64 u (List.mem_of_getElem? hc)
              obtain ⟨un, rfl⟩ := Int.eq_ofNat_of_zero_le hc0
              have hlt' : (j : Int) < l.length := by omega
              have ej : 0 ≤ (j : Int) := by omega
              have en : ((j : Int) + 1 + 9223372036854775808) % 18446744073709551616 - 9223372036854775808 = ((j + 1 : Nat) : Int) := by omega
              simp -implicitDefEqProofs only [go_sem, ↓reduceIte, reduceCtorEq, reduceDIte, Nat.reduceAdd, Nat.reduceMul, Nat.reduceSub, Nat.reduceBEq, Nat.reduceBNe, Nat.reduceBeqDiff, Nat.reduceLT, Nat.reduceLeDiff, Nat.reduceEqDiff, Nat.reduceDiv, Nat.reduceMod, Nat.reducePow, Int.reduceLT, Int.reduceLE, Int.reduceGT, Int.reduceGE, Int.reduceEq, Int.reduceNe, Int.reduceToNat, Int.reduceNeg, Int.reducePow, Int.reduceAdd, Int.reduceMul, Int.reduceSub, Int.reduceBEq, Int.reduceMod, Int.reduceDiv, Int.reduceNatCast, Nat.min_def, hlt', ej, hc, Width_spec (u := un) (by omega), RWidth_spec (u := un) (by omega), en]
              exact ⟨j + 1, by omega, by omega, rfl⟩
            · have hlt' : ¬ (j : Int) < l.length := by omega
              simp -implicitDefEqProofs only [go_sem, ↓reduceIte, reduceCtorEq, reduceDIte, Nat.reduceAdd, Nat.reduceMul, Nat.reduceSub, Nat.reduceBEq, Nat.reduceBNe, Nat.reduceBeqDiff, Nat.reduceLT, Nat.reduceLeDiff, Nat.reduceEqDiff, Nat.reduceDiv, Nat.reduceMod, Nat.reducePow, Int.reduceLT, Int.reduceLE, Int.reduceGT, Int.reduceGE, Int.reduceEq, Int.reduceNe, Int.reduceToNat, Int.reduceNeg, Int.reducePow, Int.reduceAdd, Int.reduceMul, Int.reduceSub, Int.reduceBEq, Int.reduceMod, Int.reduceDiv, Int.reduceNatCast, Nat.min_def, hlt', awake1]
end Go.Proofs.Ytahhpnilblcfcaa.D
