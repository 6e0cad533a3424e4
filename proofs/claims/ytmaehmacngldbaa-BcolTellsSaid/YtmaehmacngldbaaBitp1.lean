/- Numbers of few bits: what the functions come to. -/
import Derived.Test.YtmaehmacngldbaaDenT2
namespace Go.Proofs.Ytmaehmacngldbaa.D
open Go Go.Den
set_option linter.unusedSimpArgs false
set_option linter.unusedVariables false
set_option maxRecDepth 20000
set_option maxHeartbeats 4000000
theorem held_spec {n : Int} : dw E 56 [.int .i64 n] [] = some (.int .i64 (heldN n), []) := by
  refine dw_intro (fn := Try.f56) rfl rfl (by decide) ?_
  unfold heldN
  by_cases h0 : n < 0
  · simp -implicitDefEqProofs (maxSteps := 4000000) only [go_sem, go_sem_proc, ↓reduceIte, Nat.min_def, h0]
  · by_cases h1 : 64 < n
    · simp -implicitDefEqProofs (maxSteps := 4000000) only [go_sem, go_sem_proc, ↓reduceIte, Nat.min_def, h0, h1]
    · have e : ((n.toNat : Nat) : Int) = n := Int.toNat_of_nonneg (by omega)
      simp -implicitDefEqProofs (maxSteps := 4000000) only [go_sem, go_sem_proc, ↓reduceIte, Nat.min_def, h0, h1, e]
theorem long_spec {n c : Nat} (hn : n ≤ 64) (hc : c ≤ 1000000000000) : dw E 57 [.int .i64 n, .int .i64 c] [] = some (.int .i64 ((n * c + 7) / 8 : Nat), []) := by
  refine dw_intro (fn := Try.f57) rfl rfl (by decide) ?_
  have hm : n * c ≤ 64 * 1000000000000 := Nat.mul_le_mul hn hc
  have e1 : ((n : Int) * (c : Int) + 9223372036854775808) % 18446744073709551616 - 9223372036854775808 = ((n * c : Nat) : Int) := by
    rw [show (n : Int) * (c : Int) = ((n * c : Nat) : Int) by push_cast; rfl]; omega
  have e2 : (((n * c : Nat) : Int) + 8 + 9223372036854775808) % 18446744073709551616 - 9223372036854775808 = ((n * c + 8 : Nat) : Int) := by omega
  have e3 : (((n * c + 8 : Nat) : Int) - 1 + 9223372036854775808) % 18446744073709551616 - 9223372036854775808 = ((n * c + 7 : Nat) : Int) := by omega
  have e4 : (((n * c + 7) / 8 : Nat) + 9223372036854775808 : Int) % 18446744073709551616 - 9223372036854775808 = ((n * c + 7) / 8 : Nat) := by omega
  simp -implicitDefEqProofs (maxSteps := 4000000) only [go_sem, go_sem_proc, ↓reduceIte, Nat.min_def, e1, e2, e3, tdiv8, e4]
theorem Pack_spec {n : Int} {l : List Int} (hl : l.length ≤ 100000) (h64 : R64 l) : dw E 59 [.int .i64 n, .sl 1 (ints .u64 l)] [] = some (.nr 5 1 (ints .u8 (packL (heldN n) l)), []) := by
  refine dw_intro (fn := Try.f59) rfl rfl (by decide) ?_
  have hm64 := heldN_le n
  obtain ⟨m, hm⟩ : ∃ m, heldN n = m := ⟨_, rfl⟩
  rw [hm] at hm64 ⊢
  obtain ⟨L, hL⟩ : ∃ L, (m * l.length + 7) / 8 = L := ⟨_, rfl⟩
  have hLb : m * l.length ≤ 64 * 100000 := Nat.mul_le_mul hm64 hl
  have g1 : 0 ≤ (L : Int) := by omega
  have g2 : (L : Int) * 2 ≤ 70368744177664 := by omega
  simp -implicitDefEqProofs (maxSteps := 4000000) only [go_sem, go_sem_proc, ↓reduceIte, Nat.min_def, held_spec, hm, long_spec (n := m) (c := l.length) hm64 (by omega), hL, g1, g2, Int.le_refl]
  refine runs_loop (fun i : Nat => (⟨[(0, .int .i64 m), (5, .h 2097472), (6, .int .i64 (m * i : Nat)), (17, .sl 1 (ints .u64 l)), (18, .int .i64 l.length), (19, .int .i64 i)], [(2097472, some ⟨true, .row 5 1 (ints .u8 (packed (bitsF m l) (m * i) L))⟩)], 1⟩ : St)) (fun i => l.length - i) 0 ?_
    (fun i => i ≤ l.length) (by omega) ?_
  · simp -implicitDefEqProofs (maxSteps := 4000000) only [go_sem, go_sem_proc, ↓reduceIte, Nat.min_def, packed_zero, Nat.mul_zero]
  · intro i hi
    by_cases hlt : i < l.length
    · obtain ⟨u, hc⟩ : ∃ u, l[i]? = some u := ⟨_, List.getElem?_eq_getElem hlt⟩
      obtain ⟨hc0, hc1⟩ := h64 u (List.mem_of_getElem? hc)
      obtain ⟨un, rfl⟩ := Int.eq_ofNat_of_zero_le hc0
      have hlt' : (i : Int) < l.length := by omega
      have ei : 0 ≤ (i : Int) := by omega
      have em : ((m : Int) - 1 + 9223372036854775808) % 18446744073709551616 - 9223372036854775808 = (m : Int) - 1 - ((0 : Nat) : Int) := by omega
      have em0 : ((m : Int) - 1 - 0 : Int) = (m : Int) - 1 := by omega
      simp -implicitDefEqProofs (maxSteps := 4000000) only [go_sem, go_sem_proc, ↓reduceIte, Nat.min_def, hlt', ei, hc, em, em0]
      refine runs_loop (fun c : Nat => (⟨[(0, .int .i64 m), (5, .h 2097472), (6, .int .i64 (m * i + c : Nat)), (8, .int .u64 un), (9, .int .i64 ((m : Int) - 1 - c)), (17, .sl 1 (ints .u64 l)), (18, .int .i64 l.length), (19, .int .i64 i)], [(2097472, some ⟨true, .row 5 1 (ints .u8 (packed (bitsF m l) (m * i + c) L))⟩)], 1⟩ : St)) (fun c => m - c) 0 ?_
        (fun c => c ≤ m) (by omega) ?_
      · simp -implicitDefEqProofs (maxSteps := 4000000) only [go_sem, go_sem_proc, ↓reduceIte, Nat.min_def, em0, Nat.add_zero]
      · intro c hcm
        by_cases hcl : c < m
        · have hA : m * i + c < m * l.length := by
            have : m * (i + 1) ≤ m * l.length := Nat.mul_le_mul_left m hlt
            rw [Nat.mul_succ] at this; omega
          have hf : bitsF m l (m * i + c) = bitN un (m - 1 - c) := by
            rw [bitsF, Nat.mul_add_div (by omega), Nat.div_eq_of_lt hcl, Nat.mul_add_mod, Nat.mod_eq_of_lt hcl, List.getD_eq_getElem?_getD, Nat.add_zero, hc]
            rfl
          obtain ⟨A, hAe⟩ : ∃ A, m * i + c = A := ⟨_, rfl⟩
          rw [hAe] at hA hf
          have hAL : A / 8 < L := by omega
          have k0 : 0 ≤ (m : Int) - 1 - (c : Int) := by omega
          have k1 : ((m : Int) - 1 - (c : Int)).toNat = m - 1 - c := by omega
          have k2 : m - 1 - c ≤ 64 := by omega
          have k3 : ¬ (m : Int) - 1 - (c : Int) < 0 := by omega
          have a0 : 0 ≤ ((A / 8 : Nat) : Int) := by omega
          have a1 : (((A / 8 : Nat) : Int) + 9223372036854775808) % 18446744073709551616 - 9223372036854775808 = ((A / 8 : Nat) : Int) := by omega
          have a2 : ((7 : Int) - ((A % 8 : Nat) : Int) + 9223372036854775808) % 18446744073709551616 - 9223372036854775808 = ((7 - A % 8 : Nat) : Int) := by omega
          have a3 : ¬ (((7 - A % 8 : Nat) : Int) < 0) := by omega
          have a4 : 7 - A % 8 ≤ 8 := by omega
          have b0 : (((un / 2 ^ (m - 1 - c) : Nat) : Int)) % 2 = ((bitsF m l A : Nat) : Int) := by rw [hf]; rfl
          have hb := bitsF_le m l A
          have b1 : ((bitsF m l A : Nat) : Int) % 256 = ((bitsF m l A : Nat) : Int) := by omega
          have hb2 : bitsF m l A * 2 ^ (7 - A % 8) < 256 := by
            have h1 : bitsF m l A * 2 ^ (7 - A % 8) ≤ 1 * 2 ^ (7 - A % 8) := Nat.mul_le_mul_right _ hb
            have h2 : 2 ^ (7 - A % 8) ≤ 2 ^ 7 := Nat.pow_le_pow_right (by decide) (by omega)
            omega
          have b2 : ((bitsF m l A : Nat) : Int) * 2 ^ (7 - A % 8) % 256 = ((bitsF m l A * 2 ^ (7 - A % 8) : Nat) : Int) := by
            rw [show ((bitsF m l A : Nat) : Int) * 2 ^ (7 - A % 8) = ((bitsF m l A * 2 ^ (7 - A % 8) : Nat) : Int) by push_cast; rfl]; omega
          have c1 : ((A : Int) + 1 + 9223372036854775808) % 18446744073709551616 - 9223372036854775808 = ((A + 1 : Nat) : Int) := by omega
          have c2 : ((m : Int) - 1 - (c : Int) - 1 + 9223372036854775808) % 18446744073709551616 - 9223372036854775808 = (m : Int) - 1 - ((c + 1 : Nat) : Int) := by omega
          have c3 : ((m : Int) - 1 - (c : Int) - 1 + 9223372036854775808) % 18446744073709551616 - 9223372036854775808 = (m : Int) - 1 - ((c + 1 : Nat) : Int) := by omega
          simp -implicitDefEqProofs (maxSteps := 4000000) only [go_sem, go_sem_proc, ↓reduceIte, Nat.min_def, hAe, k0, k1, k2, k3, tdiv8, tmod8, a0, a1, a2, a3, a4, hAL, packed_length, packed_get hAL, fdiv_pow, and_one, b0, b1, b2, bor_pbyte (bitsF_le m l) A, packed_set hAL, c1, c2]
          refine ⟨by change _ = true; kernel_rfl, c + 1, by omega, by omega, ?_⟩
          rw [← hAe, Nat.add_assoc]
        · have hcl' : ¬ 0 ≤ (m : Int) - 1 - (c : Int) := by omega
          have hce : c = m := by omega
          have en : ((i : Int) + 1 + 9223372036854775808) % 18446744073709551616 - 9223372036854775808 = ((i + 1 : Nat) : Int) := by omega
          simp -implicitDefEqProofs (maxSteps := 4000000) only [go_sem, go_sem_proc, ↓reduceIte, Nat.min_def, hcl', en]
          exact ⟨i + 1, by omega, by omega, by rw [hce, Nat.mul_succ]⟩
    · have hlt' : ¬ (i : Int) < l.length := by omega
      have hie : i = l.length := by omega
      simp -implicitDefEqProofs (maxSteps := 4000000) only [go_sem, go_sem_proc, ↓reduceIte, Nat.min_def, hlt', hie, packL, hL, Int.lt_irrefl]
theorem read_spec {zs : List Int} {n s : Nat} (h8 : R8 zs) (hn : n ≤ 64) (hl : s + n ≤ 8 * zs.length) (hs : s ≤ 1000000000000000) : dw E 58 [.sl 1 (ints .u8 zs), .int .i64 n, .int .i64 s] [] = some (.int .u64 (rd zs s n), []) := by
  refine dw_intro (fn := Try.f58) rfl rfl (by decide) ?_
  simp -implicitDefEqProofs (maxSteps := 4000000) only [go_sem, go_sem_proc, ↓reduceIte, Nat.min_def]
  refine runs_loop (fun k : Nat => (⟨[(0, .sl 1 (ints .u8 zs)), (1, .int .i64 n), (2, .int .i64 s), (7, .int .u64 (rd zs s k)), (8, .int .i64 (s + k : Nat))], [], 1⟩ : St)) (fun k => n - k) 0 ?_
    (fun k => k ≤ n) (by omega) ?_
  · simp -implicitDefEqProofs (maxSteps := 4000000) only [go_sem, go_sem_proc, ↓reduceIte, Nat.min_def, rd_zero, Nat.add_zero]
  · intro k hk
    have e0 : ((s : Int) + (n : Int) + 9223372036854775808) % 18446744073709551616 - 9223372036854775808 = ((s + n : Nat) : Int) := by omega
    by_cases hlt : k < n
    · have hlt' : ((s + k : Nat) : Int) < ((s + n : Nat) : Int) := by omega
      obtain ⟨A, hA⟩ : ∃ A, s + k = A := ⟨_, rfl⟩
      have hAL : A / 8 < zs.length := by omega
      obtain ⟨z, hz⟩ : ∃ z, zs[A / 8]? = some z := ⟨_, List.getElem?_eq_getElem hAL⟩
      obtain ⟨hz0, hz1⟩ := h8 z (List.mem_of_getElem? hz)
      obtain ⟨zn, rfl⟩ := Int.eq_ofNat_of_zero_le hz0
      have a0 : 0 ≤ ((A / 8 : Nat) : Int) := by omega
      have a1 : (((A / 8 : Nat) : Int) + 9223372036854775808) % 18446744073709551616 - 9223372036854775808 = ((A / 8 : Nat) : Int) := by omega
      have a2 : ((7 : Int) - ((A % 8 : Nat) : Int) + 9223372036854775808) % 18446744073709551616 - 9223372036854775808 = ((7 - A % 8 : Nat) : Int) := by omega
      have a3 : ¬ (((7 - A % 8 : Nat) : Int) < 0) := by omega
      have a4 : 7 - A % 8 ≤ 8 := by omega
      have hb : bitAt zs A = zn / 2 ^ (7 - A % 8) % 2 := by
        rw [bitAt, List.getD_eq_getElem?_getD, hz]; rfl
      have hb1 := bitAt_le zs A
      have b0 : band 8 ((zn / 2 ^ (7 - A % 8) : Nat) : Int) 1 = ((bitAt zs A : Nat) : Int) := by
        have key : ∀ x : BitVec 8, ((x &&& 1#8).toNat : Int) = x.toNat % 2 := by decide
        unfold band
        rw [show BitVec.ofInt 8 1 = 1#8 from by decide, key, BitVec.toNat_ofInt, hb]
        omega
      have b1 : ((bitAt zs A : Nat) : Int) % 18446744073709551616 = ((bitAt zs A : Nat) : Int) := by omega
      have hr := rd_lt zs s k
      have hr2 : 2 * rd zs s k < 18446744073709551616 := by
        have h1 : 2 ^ k * 2 ≤ 2 ^ 64 := by rw [← Nat.pow_succ]; exact Nat.pow_le_pow_right (by decide) (by omega)
        omega
      have b2 : ((rd zs s k : Nat) : Int) * 2 % 18446744073709551616 = ((2 ^ 1 * rd zs s k : Nat) : Int) := by omega
      have b3 : bor 64 ((2 ^ 1 * rd zs s k : Nat) : Int) ((bitAt zs A : Nat) : Int) = ((rd zs s (k + 1) : Nat) : Int) := by
        have := bor_add (a := rd zs s k) (b := bitAt zs A) 1 (by omega) (by omega)
        unfold bor at this ⊢
        rw [BitVec.or_comm, this, rd_succ, hA]
      have c1 : ((A : Int) + 1 + 9223372036854775808) % 18446744073709551616 - 9223372036854775808 = ((A + 1 : Nat) : Int) := by omega
      rw [hA] at hlt'
      simp -implicitDefEqProofs (maxSteps := 4000000) only [go_sem, go_sem_proc, ↓reduceIte, Nat.min_def, hA, e0, hlt', a0, a1, a2, a3, a4, hz, tdiv8, tmod8, fdiv_pow, b0, b1, b2, b3, c1]
      exact ⟨k + 1, by omega, by omega, by rw [← hA, Nat.add_assoc]⟩
    · have hke : k = n := by omega
      simp -implicitDefEqProofs (maxSteps := 4000000) only [go_sem, go_sem_proc, ↓reduceIte, Nat.min_def, hke, e0, Int.lt_irrefl]
end Go.Proofs.Ytmaehmacngldbaa.D
