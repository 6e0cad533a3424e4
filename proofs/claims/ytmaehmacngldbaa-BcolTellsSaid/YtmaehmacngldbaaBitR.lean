/- The document's own numbers of few bits. -/
import Derived.Test.YtmaehmacngldbaaBitp3
namespace Go.Proofs.Ytmaehmacngldbaa.D
open Go Go.Den
set_option linter.unusedSimpArgs false
set_option linter.unusedVariables false
set_option maxRecDepth 20000
set_option maxHeartbeats 4000000
theorem RWidth_spec {u : Nat} (h : u < 18446744073709551616) : dw E 46 [.int .u64 u] [] = some (.int .i64 (width u), []) := by
  refine dw_intro (fn := Try.f46) rfl rfl (by decide) ?_
  have hw64 : width u ≤ 64 := width_le (n := 64) h
  simp -implicitDefEqProofs (maxSteps := 4000000) only [go_sem, go_sem_proc, ↓reduceIte, Nat.min_def]
  refine runs_loop (fun i : Nat => (⟨[(0, .int .u64 u), (3, .int .i64 i)], [], 1⟩ : St)) (fun i => width u - i) 0 ?_
    (fun i => i ≤ width u) (by omega) ?_
  · simp -implicitDefEqProofs (maxSteps := 4000000) only [go_sem, go_sem_proc, ↓reduceIte, Nat.min_def]
  · intro i hi
    have a1 : (i : Int) % 18446744073709551616 = i := by omega
    have a2 : ¬ (i : Int) < 0 := by omega
    have a3 : i ≤ 64 := by omega
    have en : ((i : Int) + 1 + 9223372036854775808) % 18446744073709551616 - 9223372036854775808 = ((i + 1 : Nat) : Int) := by omega
    by_cases hlt : i < width u
    · have h64 : (i : Int) < 64 := by omega
      have hd : (((u / 2 ^ i : Nat) : Int) = 0) = False := eq_false (by have := width_div_ne.2 hlt; omega)
      simp -implicitDefEqProofs (maxSteps := 4000000) only [go_sem, go_sem_proc, ↓reduceIte, Nat.min_def, h64, a1, a2, a3, fdiv_pow, hd, en]
      exact ⟨i + 1, by omega, by omega, rfl⟩
    · have hie : i = width u := by omega
      have hd0 : u / 2 ^ i = 0 := by rw [hie]; exact width_div
      have hd : (((u / 2 ^ i : Nat) : Int) = 0) = True := eq_true (by omega)
      rw [← hie] at *
      by_cases h64 : (i : Int) < 64
      · simp -implicitDefEqProofs (maxSteps := 4000000) only [go_sem, go_sem_proc, ↓reduceIte, Nat.min_def, h64, a1, a2, a3, fdiv_pow, hd]
      · simp -implicitDefEqProofs (maxSteps := 4000000) only [go_sem, go_sem_proc, ↓reduceIte, Nat.min_def, h64]
theorem minmax_held (n : Int) : (if (64 : Int) < (if n < 0 then 0 else n) then 64 else (if n < 0 then 0 else n)) = ((heldN n : Nat) : Int) := by
  unfold heldN
  by_cases h0 : n < 0
  · rw [if_pos h0, if_pos h0, if_neg (by decide)]; rfl
  · rw [if_neg h0, if_neg h0]
    by_cases h1 : 64 < n
    · rw [if_pos h1, if_pos h1]; rfl
    · rw [if_neg h1, if_neg h1]; omega
theorem RPack_spec {n : Int} {l : List Int} (hl : l.length ≤ 100000) (h64 : R64 l) : dw E 48 [.int .i64 n, .sl 1 (ints .u64 l)] [] = some (.nr 5 1 (ints .u8 (packL (heldN n) l)), []) := by
  refine dw_intro (fn := Try.f48) rfl rfl (by decide) ?_
  have hm64 := heldN_le n
  have hmm := minmax_held n
  obtain ⟨m, hm⟩ : ∃ m, heldN n = m := ⟨_, rfl⟩
  rw [hm] at hm64 hmm ⊢
  obtain ⟨L, hL⟩ : ∃ L, (m * l.length + 7) / 8 = L := ⟨_, rfl⟩
  have hLb : m * l.length ≤ 64 * 100000 := Nat.mul_le_mul hm64 hl
  simp -implicitDefEqProofs (maxSteps := 4000000) only [go_sem, go_sem_proc, ↓reduceIte, Nat.min_def, GT.gt, hmm]
  refine runs_loop (fun i : Nat => (⟨[(0, .int .i64 m), (1, .sl 1 (ints .u64 l)), (5, .h 2097472), (6, .int .i64 i)], [(2097472, some ⟨true, .row 5 1 (ints .u8 (bitL (bitsF m l) (m * i)))⟩)], 1⟩ : St)) (fun i => l.length - i) 0 ?_
    (fun i => i ≤ l.length) (by omega) ?_
  · simp -implicitDefEqProofs (maxSteps := 4000000) only [go_sem, go_sem_proc, ↓reduceIte, Nat.min_def]
    rfl
  · intro i hi
    by_cases hlt : i < l.length
    · obtain ⟨u, hc⟩ : ∃ u, l[i]? = some u := ⟨_, List.getElem?_eq_getElem hlt⟩
      obtain ⟨hc0, hc1⟩ := h64 u (List.mem_of_getElem? hc)
      obtain ⟨un, rfl⟩ := Int.eq_ofNat_of_zero_le hc0
      have hlt' : (i : Int) < l.length := by omega
      have ei : 0 ≤ (i : Int) := by omega
      have eni : ((i : Int) + 1 + 9223372036854775808) % 18446744073709551616 - 9223372036854775808 = ((i + 1 : Nat) : Int) := by omega
      have em : ((m : Int) - 1 + 9223372036854775808) % 18446744073709551616 - 9223372036854775808 = (m : Int) - 1 - ((0 : Nat) : Int) := by omega
      have em0 : ((m : Int) - 1 - 0 : Int) = (m : Int) - 1 := by omega
      simp -implicitDefEqProofs (maxSteps := 4000000) only [go_sem, go_sem_proc, ↓reduceIte, Nat.min_def, hlt', ei, hc, em, em0]
      refine runs_loop (fun c : Nat => (⟨[(0, .int .i64 m), (1, .sl 1 (ints .u64 l)), (5, .h 2097472), (6, .int .i64 i), (7, .int .i64 ((m : Int) - 1 - c))], [(2097472, some ⟨true, .row 5 1 (ints .u8 (bitL (bitsF m l) (m * i + c)))⟩)], 1⟩ : St)) (fun c => m - c) 0 ?_
        (fun c => c ≤ m) (by omega) ?_
      · simp -implicitDefEqProofs (maxSteps := 4000000) only [go_sem, go_sem_proc, ↓reduceIte, Nat.min_def, em0, Nat.add_zero]
      · intro c hcm
        by_cases hcl : c < m
        · have hA : m * i + c < m * l.length := by
            have : m * (i + 1) ≤ m * l.length := Nat.mul_le_mul_left m hlt
            rw [Nat.mul_succ] at this; omega
          have hf : bitsF m l (m * i + c) = bitN un (m - 1 - c) := by
            rw [bitsF, Nat.mul_add_div (by omega), Nat.div_eq_of_lt hcl, Nat.mul_add_mod, Nat.mod_eq_of_lt hcl, List.getD_eq_getElem?_getD, Nat.add_zero, hc]
            rfl
          obtain ⟨A, hAe⟩ : ∃ A, m * i + c = A := ⟨_, rfl⟩
          rw [hAe] at hA hf
          have k0 : 0 ≤ (m : Int) - 1 - (c : Int) := by omega
          have k1 : ((m : Int) - 1 - (c : Int)) % 18446744073709551616 = ((m - 1 - c : Nat) : Int) := by omega
          have k2 : m - 1 - c ≤ 64 := by omega
          have k3 : ¬ ((m - 1 - c : Nat) : Int) < 0 := by omega
          have b0 : (((un / 2 ^ (m - 1 - c) : Nat) : Int)) % 2 = ((bitsF m l A : Nat) : Int) := by rw [hf]; rfl
          have hb := bitsF_le m l A
          have b1 : ((bitsF m l A : Nat) : Int) % 256 = ((bitsF m l A : Nat) : Int) := by omega
          have hlim : ((bitL (bitsF m l) A).length + 1) * 2 ≤ 70368744177664 := by rw [bitL_length]; omega
          have c2 : ((m : Int) - 1 - (c : Int) - 1 + 9223372036854775808) % 18446744073709551616 - 9223372036854775808 = (m : Int) - 1 - ((c + 1 : Nat) : Int) := by omega
          simp -implicitDefEqProofs (maxSteps := 4000000) only [go_sem, go_sem_proc, ↓reduceIte, Nat.min_def, hAe, ei, hc, k0, k1, k2, k3, fdiv_pow, and_one, b0, b1, hlim, c2]
          refine ⟨c + 1, by omega, by omega, ?_⟩
          rw [← hAe, ← Nat.add_assoc, bitL_succ]
        · have hcl' : ¬ 0 ≤ (m : Int) - 1 - (c : Int) := by omega
          have hce : c = m := by omega
          simp -implicitDefEqProofs (maxSteps := 4000000) only [go_sem, go_sem_proc, ↓reduceIte, Nat.min_def, hcl', eni]
          exact ⟨i + 1, by omega, by omega, by rw [hce, Nat.mul_succ]⟩
    · have hlt' : ¬ (i : Int) < l.length := by omega
      have hie : i = l.length := by omega
      have g0 : ((m * l.length : Nat) + 7 + 9223372036854775808 : Int) % 18446744073709551616 - 9223372036854775808 = ((m * l.length + 7 : Nat) : Int) := by omega
      have g3 : ((L : Nat) + 9223372036854775808 : Int) % 18446744073709551616 - 9223372036854775808 = (L : Int) := by omega
      have g1 : 0 ≤ (L : Int) := by omega
      have g2 : (L : Int) * 2 ≤ 70368744177664 := by omega
      simp -implicitDefEqProofs (maxSteps := 4000000) only [go_sem, go_sem_proc, ↓reduceIte, Nat.min_def, hlt', hie, bitL_length, g0, tdiv8, hL, g3, g1, g2, Int.le_refl, Int.lt_irrefl]
      refine runs_loop (fun A : Nat => (⟨[(5, .h 2097472), (8, .h 2097664), (9, .int .i64 A)], [(2097472, some ⟨true, .row 5 1 (ints .u8 (bitL (bitsF m l) (m * l.length)))⟩), (2097664, some ⟨true, .row 5 1 (ints .u8 (packed (bitsF m l) A L))⟩)], 1⟩ : St)) (fun A => m * l.length - A) 0 ?_
        (fun A => A ≤ m * l.length) (by omega) ?_
      · simp -implicitDefEqProofs (maxSteps := 4000000) only [go_sem, go_sem_proc, ↓reduceIte, Nat.min_def, packed_zero]
      · intro A hA
        by_cases hAl : A < m * l.length
        · have hAl' : (A : Int) < ((m * l.length : Nat) : Int) := by omega
          have hAL : A / 8 < L := by omega
          have a0 : 0 ≤ ((A / 8 : Nat) : Int) := by omega
          have a00 : 0 ≤ (A : Int) := by omega
          have a1 : (((A / 8 : Nat) : Int) + 9223372036854775808) % 18446744073709551616 - 9223372036854775808 = ((A / 8 : Nat) : Int) := by omega
          have a2 : ((7 : Int) - ((A % 8 : Nat) : Int) + 9223372036854775808) % 18446744073709551616 - 9223372036854775808 = ((7 - A % 8 : Nat) : Int) := by omega
          have a25 : ((7 - A % 8 : Nat) : Int) % 18446744073709551616 = ((7 - A % 8 : Nat) : Int) := by omega
          have a3 : ¬ (((7 - A % 8 : Nat) : Int) < 0) := by omega
          have a4 : 7 - A % 8 ≤ 8 := by omega
          have hb := bitsF_le m l A
          have hb2 : bitsF m l A * 2 ^ (7 - A % 8) < 256 := by
            have h1 : bitsF m l A * 2 ^ (7 - A % 8) ≤ 1 * 2 ^ (7 - A % 8) := Nat.mul_le_mul_right _ hb
            have h2 : 2 ^ (7 - A % 8) ≤ 2 ^ 7 := Nat.pow_le_pow_right (by decide) (by omega)
            omega
          have b2 : ((bitsF m l A : Nat) : Int) * 2 ^ (7 - A % 8) % 256 = ((bitsF m l A * 2 ^ (7 - A % 8) : Nat) : Int) := by
            rw [show ((bitsF m l A : Nat) : Int) * 2 ^ (7 - A % 8) = ((bitsF m l A * 2 ^ (7 - A % 8) : Nat) : Int) by push_cast; rfl]; omega
          have c1 : ((A : Int) + 1 + 9223372036854775808) % 18446744073709551616 - 9223372036854775808 = ((A + 1 : Nat) : Int) := by omega
          simp -implicitDefEqProofs (maxSteps := 4000000) only [go_sem, go_sem_proc, ↓reduceIte, Nat.min_def, bitL_length, hAl, hAl', hAL, a0, a00, a1, a2, a25, a3, a4, tdiv8, tmod8, packed_length, packed_get hAL, bitL_get hAl, b2, bor_pbyte (bitsF_le m l) A, packed_set hAL, c1]
          exact ⟨by change _ = true; kernel_rfl, A + 1, by omega, by omega, rfl⟩
        · have hAe : A = m * l.length := by omega
          simp -implicitDefEqProofs (maxSteps := 4000000) only [go_sem, go_sem_proc, ↓reduceIte, Nat.min_def, bitL_length, hAe, Int.lt_irrefl, packL, hL]
theorem number_spec {zs : List Int} {n s : Nat} (h8 : R8 zs) (hn : n ≤ 64) (hl : s + n ≤ 8 * zs.length) (hs : s ≤ 1000000000000000) : dw E 71 [.sl 1 (ints .u8 zs), .int .i64 n, .int .i64 s] [] = some (.int .u64 (rd zs s n), []) := by
  refine dw_intro (fn := Try.f71) rfl rfl (by decide) ?_
  simp -implicitDefEqProofs (maxSteps := 4000000) only [go_sem, go_sem_proc, ↓reduceIte, Nat.min_def]
  refine runs_loop (fun k : Nat => (⟨[(0, .sl 1 (ints .u8 zs)), (1, .int .i64 n), (2, .int .i64 s), (7, .int .u64 (rd zs s k)), (8, .int .i64 k)], [], 1⟩ : St)) (fun k => n - k) 0 ?_
    (fun k => k ≤ n) (by omega) ?_
  · simp -implicitDefEqProofs (maxSteps := 4000000) only [go_sem, go_sem_proc, ↓reduceIte, Nat.min_def, rd_zero]
  · intro k hk
    have e0 : ((s : Int) + (k : Int) + 9223372036854775808) % 18446744073709551616 - 9223372036854775808 = ((s + k : Nat) : Int) := by omega
    by_cases hlt : k < n
    · have hlt' : (k : Int) < n := by omega
      obtain ⟨A, hA⟩ : ∃ A, s + k = A := ⟨_, rfl⟩
      have hAL : A / 8 < zs.length := by omega
      obtain ⟨z, hz⟩ : ∃ z, zs[A / 8]? = some z := ⟨_, List.getElem?_eq_getElem hAL⟩
      obtain ⟨hz0, hz1⟩ := h8 z (List.mem_of_getElem? hz)
      obtain ⟨zn, rfl⟩ := Int.eq_ofNat_of_zero_le hz0
      have a0 : 0 ≤ ((A / 8 : Nat) : Int) := by omega
      have a1 : (((A / 8 : Nat) : Int) + 9223372036854775808) % 18446744073709551616 - 9223372036854775808 = ((A / 8 : Nat) : Int) := by omega
      have a2 : ((7 : Int) - ((A % 8 : Nat) : Int) + 9223372036854775808) % 18446744073709551616 - 9223372036854775808 = ((7 - A % 8 : Nat) : Int) := by omega
      have a25 : ((7 - A % 8 : Nat) : Int) % 18446744073709551616 = ((7 - A % 8 : Nat) : Int) := by omega
      have a3 : ¬ (((7 - A % 8 : Nat) : Int) < 0) := by omega
      have a4 : 7 - A % 8 ≤ 8 := by omega
      have hb : bitAt zs A = zn / 2 ^ (7 - A % 8) % 2 := by
        rw [bitAt, List.getD_eq_getElem?_getD, hz]; rfl
      have hb1 := bitAt_le zs A
      have b0 : band 8 ((zn / 2 ^ (7 - A % 8) : Nat) : Int) 1 = ((bitAt zs A : Nat) : Int) := by
        have key : ∀ x : BitVec 8, ((x &&& 1#8).toNat : Int) = x.toNat % 2 := by decide
        unfold band
        rw [show BitVec.ofInt 8 1 = 1#8 from by decide, key, BitVec.toNat_ofInt, hb]
        omega
      have b1 : ((bitAt zs A : Nat) : Int) % 18446744073709551616 = ((bitAt zs A : Nat) : Int) := by omega
      have hr := rd_lt zs s k
      have hr2 : 2 * rd zs s k < 18446744073709551616 := by
        have h1 : 2 ^ k * 2 ≤ 2 ^ 64 := by rw [← Nat.pow_succ]; exact Nat.pow_le_pow_right (by decide) (by omega)
        omega
      have b2 : ((rd zs s k : Nat) : Int) * 2 % 18446744073709551616 = ((2 ^ 1 * rd zs s k : Nat) : Int) := by omega
      have b3 : bor 64 ((2 ^ 1 * rd zs s k : Nat) : Int) ((bitAt zs A : Nat) : Int) = ((rd zs s (k + 1) : Nat) : Int) := by
        have := bor_add (a := rd zs s k) (b := bitAt zs A) 1 (by omega) (by omega)
        unfold bor at this ⊢
        rw [BitVec.or_comm, this, rd_succ, hA]
      have c1 : ((k : Int) + 1 + 9223372036854775808) % 18446744073709551616 - 9223372036854775808 = ((k + 1 : Nat) : Int) := by omega
      simp -implicitDefEqProofs (maxSteps := 4000000) only [go_sem, go_sem_proc, ↓reduceIte, Nat.min_def, hlt', e0, hA, a0, a1, a2, a25, a3, a4, hz, tdiv8, tmod8, fdiv_pow, b0, b1, b2, b3, c1]
      exact ⟨k + 1, by omega, by omega, rfl⟩
    · have hke : k = n := by omega
      simp -implicitDefEqProofs (maxSteps := 4000000) only [go_sem, go_sem_proc, ↓reduceIte, Nat.min_def, hke, Int.lt_irrefl]
theorem RUnpack_spec {zs : List Int} {n c : Int} (h8 : R8 zs) (hz : zs.length ≤ 1000000000000) : dw E 53 [.sl 1 (ints .u8 zs), .int .i64 n, .int .i64 c] [] = some (resU (unpack n zs c), []) := by
  refine dw_intro (fn := Try.f53) rfl rfl (by decide) ?_
  have hm64 := heldN_le n
  have hmm := minmax_held n
  unfold unpack
  obtain ⟨m, hm⟩ : ∃ m, heldN n = m := ⟨_, rfl⟩
  rw [hm] at hm64 hmm ⊢
  by_cases h1 : c < 0
  · rw [if_pos (.inl h1)]
    simp -implicitDefEqProofs (maxSteps := 4000000) only [go_sem, go_sem_proc, ↓reduceIte, Nat.min_def, GT.gt, hmm, h1, resU]
  · by_cases h2 : 65535 < c
    · rw [if_pos (.inr (.inl h2))]
      simp -implicitDefEqProofs (maxSteps := 4000000) only [go_sem, go_sem_proc, ↓reduceIte, Nat.min_def, GT.gt, hmm, h1, h2, resU]
    · obtain ⟨cn, rfl⟩ := Int.eq_ofNat_of_zero_le (a := c) (by omega)
      rw [Int.toNat_natCast]
      have hmc : m * cn ≤ 64 * 65535 := Nat.mul_le_mul hm64 (by omega)
      have l1 : ((m : Int) * (cn : Int) + 9223372036854775808) % 18446744073709551616 - 9223372036854775808 = ((m * cn : Nat) : Int) := by
        rw [show (m : Int) * (cn : Int) = ((m * cn : Nat) : Int) by push_cast; rfl]; omega
      have l2 : (((m * cn : Nat) : Int) + 7 + 9223372036854775808) % 18446744073709551616 - 9223372036854775808 = ((m * cn + 7 : Nat) : Int) := by omega
      have l3 : (((m * cn + 7) / 8 : Nat) + 9223372036854775808 : Int) % 18446744073709551616 - 9223372036854775808 = ((m * cn + 7) / 8 : Nat) := by omega
      by_cases h3 : zs.length = (m * cn + 7) / 8
      · rw [if_neg (by omega)]
        have e3 : ((zs.length : Int) = (((m * cn + 7) / 8 : Nat) : Int)) = True := eq_true (by omega)
        simp -implicitDefEqProofs (maxSteps := 4000000) only [go_sem, go_sem_proc, ↓reduceIte, Nat.min_def, GT.gt, hmm, h1, h2, l1, l2, tdiv8, l3, e3]
        refine runs_loop (fun i : Nat => (⟨[(0, .sl 1 (ints .u8 zs)), (1, .int .i64 m), (2, .int .i64 cn), (8, .h 2097664), (9, .int .i64 i)], [(2097664, some ⟨true, .row 58 1 (ints .u64 ((unpL m zs cn).take i))⟩)], 1⟩ : St)) (fun i => cn - i) 0 ?_
          (fun i => i ≤ cn) (by omega) ?_
        · simp -implicitDefEqProofs (maxSteps := 4000000) only [go_sem, go_sem_proc, ↓reduceIte, Nat.min_def]
          rfl
        · intro i hi
          by_cases hlt : i < cn
          · have hlt' : (i : Int) < cn := by omega
            have hmi : m * (i + 1) ≤ m * cn := Nat.mul_le_mul_left m hlt
            rw [Nat.mul_succ] at hmi
            have e6 : ((i : Int) * (m : Int) + 9223372036854775808) % 18446744073709551616 - 9223372036854775808 = ((m * i : Nat) : Int) := by
              rw [show (i : Int) * (m : Int) = ((m * i : Nat) : Int) by push_cast; rw [Int.mul_comm]]; omega
            have en : ((i : Int) + 1 + 9223372036854775808) % 18446744073709551616 - 9223372036854775808 = ((i + 1 : Nat) : Int) := by omega
            have hlim : (((unpL m zs cn).take i).length + 1) * 9 ≤ 70368744177664 := by rw [List.length_take, unpL_length]; omega
            simp -implicitDefEqProofs (maxSteps := 4000000) only [go_sem, go_sem_proc, ↓reduceIte, Nat.min_def, hlt', e6, en, number_spec (s := m * i) (n := m) h8 hm64 (by omega) (by omega), hlim]
            exact ⟨i + 1, by omega, by omega, by rw [unpL_take hlt]⟩
          · have hie : i = cn := by omega
            have hte : (unpL m zs cn).take cn = unpL m zs cn := List.take_of_length_le (by rw [unpL_length]; omega)
            have hq := toU8_beq (packL_R8 m (unpL m zs cn)) h8
            by_cases h4 : packL m (unpL m zs cn) = zs
            · have q4 := eq_true h4
              simp -implicitDefEqProofs (maxSteps := 4000000) only [go_sem, go_sem_proc, ↓reduceIte, Nat.min_def, hie, Int.lt_irrefl, hte, RPack_spec (n := (m : Int)) (l := unpL m zs cn) (by rw [unpL_length]; omega) (unpL_R64 hm64 zs cn), heldN_nat hm64, hq, q4, resU]
              change _ = true
              kernel_rfl
            · simp -implicitDefEqProofs (maxSteps := 4000000) only [go_sem, go_sem_proc, ↓reduceIte, Nat.min_def, hie, Int.lt_irrefl, hte, RPack_spec (n := (m : Int)) (l := unpL m zs cn) (by rw [unpL_length]; omega) (unpL_R64 hm64 zs cn), heldN_nat hm64, hq, h4, resU]
              change _ = true
              kernel_rfl
      · rw [if_pos (.inr (.inr h3))]
        have e3 : ((zs.length : Int) = (((m * cn + 7) / 8 : Nat) : Int)) = False := eq_false (by omega)
        simp -implicitDefEqProofs (maxSteps := 4000000) only [go_sem, go_sem_proc, ↓reduceIte, Nat.min_def, GT.gt, hmm, h1, h2, l1, l2, tdiv8, l3, e3, resU]
end Go.Proofs.Ytmaehmacngldbaa.D
