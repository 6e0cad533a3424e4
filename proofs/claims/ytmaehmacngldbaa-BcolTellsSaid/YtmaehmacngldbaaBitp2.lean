/- Numbers of few bits, read; how wide a number is. -/
import Derived.Test.YtmaehmacngldbaaBitp1
namespace Go.Proofs.Ytmaehmacngldbaa.D
open Go Go.Den
set_option linter.unusedSimpArgs false
set_option linter.unusedVariables false
set_option maxRecDepth 20000
set_option maxHeartbeats 4000000
theorem Equal_spec {o q : Option (List Int)} : dw E 23 [bl o, bl q] [] = some (.bool ((bz o).map toU8 == (bz q).map toU8), []) := by
  refine dw_intro (fn := Try.f23) rfl rfl (by decide) ?_
  simp -implicitDefEqProofs (maxSteps := 4000000) only [go_sem, go_sem_proc, ↓reduceIte, Nat.min_def]
theorem Equal_sl {a b : List Int} (ha : R8 a) (hb : R8 b) : dw E 23 [.sl 1 (ints .u8 a), .sl 1 (ints .u8 b)] [] = some (.bool (decide (a = b)), []) := by
  have := Equal_spec (o := some a) (q := some b)
  rw [bz_some, bz_some, toU8_beq ha hb] at this
  exact this
/-- what numbers are told with -/
def resU : Option (List Int) → PV
  | some l => .tup [.nr 58 1 (ints .u64 l), .bool true]
  | none => .tup [.nils, .bool false]
theorem Unpack_spec {zs : List Int} {n c : Int} (h8 : R8 zs) (hz : zs.length ≤ 1000000000000) : dw E 36 [.sl 1 (ints .u8 zs), .int .i64 n, .int .i64 c] [] = some (resU (unpack n zs c), []) := by
  refine dw_intro (fn := Try.f36) rfl rfl (by decide) ?_
  have hm64 := heldN_le n
  unfold unpack
  obtain ⟨m, hm⟩ : ∃ m, heldN n = m := ⟨_, rfl⟩
  rw [hm] at hm64 ⊢
  by_cases h1 : c < 0
  · rw [if_pos (.inl h1)]
    simp -implicitDefEqProofs (maxSteps := 4000000) only [go_sem, go_sem_proc, ↓reduceIte, Nat.min_def, held_spec, hm, h1, resU]
  · by_cases h2 : 65535 < c
    · rw [if_pos (.inr (.inl h2))]
      simp -implicitDefEqProofs (maxSteps := 4000000) only [go_sem, go_sem_proc, ↓reduceIte, Nat.min_def, held_spec, hm, h1, h2, resU]
    · obtain ⟨cn, rfl⟩ := Int.eq_ofNat_of_zero_le (a := c) (by omega)
      rw [Int.toNat_natCast]
      by_cases h3 : zs.length = (m * cn + 7) / 8
      · rw [if_neg (by omega)]
        have e3 : ((zs.length : Int) = (((m * cn + 7) / 8 : Nat) : Int)) = True := eq_true (by omega)
        have hmc : m * cn ≤ 64 * 65535 := Nat.mul_le_mul hm64 (by omega)
        have e4 : 0 ≤ (cn : Int) := by omega
        have e5 : (cn : Int) * 9 ≤ 70368744177664 := by omega
        simp -implicitDefEqProofs (maxSteps := 4000000) only [go_sem, go_sem_proc, ↓reduceIte, Nat.min_def, held_spec, hm, h1, h2, long_spec (n := m) (c := cn) hm64 (by omega), e3, e4, e5, Int.le_refl]
        refine runs_loop (fun i : Nat => (⟨[(0, .sl 1 (ints .u8 zs)), (1, .int .i64 m), (8, .h 2097664), (29, .int .i64 cn), (30, .int .i64 i)], [(2097664, some ⟨true, .row 58 1 (ints .u64 (unpP m zs cn i))⟩)], 1⟩ : St)) (fun i => cn - i) 0 ?_
          (fun i => i ≤ cn) (by omega) ?_
        · simp -implicitDefEqProofs (maxSteps := 4000000) only [go_sem, go_sem_proc, ↓reduceIte, Nat.min_def, unpP_zero, List.length_replicate]
        · intro i hi
          by_cases hlt : i < cn
          · have hlt' : (i : Int) < cn := by omega
            have ei : 0 ≤ (i : Int) := by omega
            have hmi : m * (i + 1) ≤ m * cn := Nat.mul_le_mul_left m hlt
            rw [Nat.mul_succ] at hmi
            have e6 : ((m : Int) * (i : Int) + 9223372036854775808) % 18446744073709551616 - 9223372036854775808 = ((m * i : Nat) : Int) := by
              rw [show (m : Int) * (i : Int) = ((m * i : Nat) : Int) by push_cast; rfl]; omega
            have en : ((i : Int) + 1 + 9223372036854775808) % 18446744073709551616 - 9223372036854775808 = ((i + 1 : Nat) : Int) := by omega
            simp -implicitDefEqProofs (maxSteps := 4000000) only [go_sem, go_sem_proc, ↓reduceIte, Nat.min_def, hlt, hlt', ei, e6, en, read_spec (s := m * i) (n := m) h8 hm64 (by omega) (by omega), unpP_length, unpP_get hlt, unpP_set hlt]
            exact ⟨i + 1, by omega, by omega, rfl⟩
          · have hie : i = cn := by omega
            by_cases h4 : packL m (unpL m zs cn) = zs
            · have q4 := eq_true h4
              simp -implicitDefEqProofs (maxSteps := 4000000) only [go_sem, go_sem_proc, ↓reduceIte, Nat.min_def, hie, Int.lt_irrefl, unpP_end, Pack_spec (n := (m : Int)) (l := unpL m zs cn) (by rw [unpL_length]; omega) (unpL_R64 hm64 zs cn), heldN_nat hm64, Equal_sl (packL_R8 m (unpL m zs cn)) h8, q4, resU]
            · simp -implicitDefEqProofs (maxSteps := 4000000) only [go_sem, go_sem_proc, ↓reduceIte, Nat.min_def, hie, Int.lt_irrefl, unpP_end, Pack_spec (n := (m : Int)) (l := unpL m zs cn) (by rw [unpL_length]; omega) (unpL_R64 hm64 zs cn), heldN_nat hm64, Equal_sl (packL_R8 m (unpL m zs cn)) h8, h4, resU]
      · rw [if_pos (.inr (.inr h3))]
        have e3 : ((zs.length : Int) = (((m * cn + 7) / 8 : Nat) : Int)) = False := eq_false (by omega)
        simp -implicitDefEqProofs (maxSteps := 4000000) only [go_sem, go_sem_proc, ↓reduceIte, Nat.min_def, held_spec, hm, h1, h2, long_spec (n := m) (c := cn) hm64 (by omega), e3, resU]
theorem len8_tab : Go.Lib.len8tab = ⟨len8.toArray⟩ := by kernel_rfl
theorem Len64_spec {u : Nat} (h : u < 18446744073709551616) : dw E 72 [.int .u64 u] [] = some (.int .i64 (width u), []) := by
  refine dw_intro (fn := Try.f72) rfl rfl (by decide) ?_
  by_cases h0 : 4294967296 ≤ u
  · have e0 : (4294967296 : Int) ≤ ((u : Nat) : Int) := by omega
    have f0 : ((u : Nat) : Int).fdiv 4294967296 = ((u / 4294967296 : Nat) : Int) := fdiv_nat _ _
    by_cases h1 : 65536 ≤ u / 4294967296
    · have e1 : (65536 : Int) ≤ ((u / 4294967296 : Nat) : Int) := by omega
      have f1 : ((u / 4294967296 : Nat) : Int).fdiv 65536 = ((u / 4294967296 / 65536 : Nat) : Int) := fdiv_nat _ _
      by_cases h2 : 256 ≤ u / 4294967296 / 65536
      · have e2 : (256 : Int) ≤ ((u / 4294967296 / 65536 : Nat) : Int) := by omega
        have f2 : ((u / 4294967296 / 65536 : Nat) : Int).fdiv 256 = ((u / 4294967296 / 65536 / 256 : Nat) : Int) := fdiv_nat _ _
        have hv : u / 4294967296 / 65536 / 256 < 256 := by omega
        have hw := width8 hv
        have g0 : ((u / 4294967296 / 65536 / 256 : Nat) : Int) % 256 = ((u / 4294967296 / 65536 / 256 : Nat) : Int) := by omega
        have g1 : 0 ≤ ((u / 4294967296 / 65536 / 256 : Nat) : Int) := by omega
        have g2 : ((UInt8.ofNat (width (u / 4294967296 / 65536 / 256))).toNat : Int) = ((width (u / 4294967296 / 65536 / 256) : Nat) : Int) := by rw [UInt8.toNat_ofNat']; omega
        have g3 : (((width (u / 4294967296 / 65536 / 256) : Nat) : Int) + 9223372036854775808) % 18446744073709551616 - 9223372036854775808 = ((width (u / 4294967296 / 65536 / 256) : Nat) : Int) := by omega
        have gw : width u = width (u / 4294967296 / 65536 / 256) + 56 := by
          have w0 : width u = width (u / 4294967296) + 32 := width_shift 32 (by omega)
          have w1 : width (u / 4294967296) = width ((u / 4294967296) / 65536) + 16 := width_shift 16 (by omega)
          have w2 : width ((u / 4294967296) / 65536) = width (((u / 4294967296) / 65536) / 256) + 8 := width_shift 8 (by omega)
          omega
        have g4 : ((56 : Int) + ((width (u / 4294967296 / 65536 / 256) : Nat) : Int) + 9223372036854775808) % 18446744073709551616 - 9223372036854775808 = ((width u : Nat) : Int) := by omega
        simp -implicitDefEqProofs (maxSteps := 4000000) only [go_sem, go_sem_proc, ↓reduceIte, Nat.min_def, e0, f0, e1, f1, e2, f2, g0, g1, len8_tab, len8_get hv, g2, g3, g4]
      · have e2 : ¬ (256 : Int) ≤ ((u / 4294967296 / 65536 : Nat) : Int) := by omega
        have hv : u / 4294967296 / 65536 < 256 := by omega
        have hw := width8 hv
        have g0 : ((u / 4294967296 / 65536 : Nat) : Int) % 256 = ((u / 4294967296 / 65536 : Nat) : Int) := by omega
        have g1 : 0 ≤ ((u / 4294967296 / 65536 : Nat) : Int) := by omega
        have g2 : ((UInt8.ofNat (width (u / 4294967296 / 65536))).toNat : Int) = ((width (u / 4294967296 / 65536) : Nat) : Int) := by rw [UInt8.toNat_ofNat']; omega
        have g3 : (((width (u / 4294967296 / 65536) : Nat) : Int) + 9223372036854775808) % 18446744073709551616 - 9223372036854775808 = ((width (u / 4294967296 / 65536) : Nat) : Int) := by omega
        have gw : width u = width (u / 4294967296 / 65536) + 48 := by
          have w0 : width u = width (u / 4294967296) + 32 := width_shift 32 (by omega)
          have w1 : width (u / 4294967296) = width ((u / 4294967296) / 65536) + 16 := width_shift 16 (by omega)
          omega
        have g4 : ((48 : Int) + ((width (u / 4294967296 / 65536) : Nat) : Int) + 9223372036854775808) % 18446744073709551616 - 9223372036854775808 = ((width u : Nat) : Int) := by omega
        simp -implicitDefEqProofs (maxSteps := 4000000) only [go_sem, go_sem_proc, ↓reduceIte, Nat.min_def, e0, f0, e1, f1, e2, g0, g1, len8_tab, len8_get hv, g2, g3, g4]
    · have e1 : ¬ (65536 : Int) ≤ ((u / 4294967296 : Nat) : Int) := by omega
      by_cases h2 : 256 ≤ u / 4294967296
      · have e2 : (256 : Int) ≤ ((u / 4294967296 : Nat) : Int) := by omega
        have f2 : ((u / 4294967296 : Nat) : Int).fdiv 256 = ((u / 4294967296 / 256 : Nat) : Int) := fdiv_nat _ _
        have hv : u / 4294967296 / 256 < 256 := by omega
        have hw := width8 hv
        have g0 : ((u / 4294967296 / 256 : Nat) : Int) % 256 = ((u / 4294967296 / 256 : Nat) : Int) := by omega
        have g1 : 0 ≤ ((u / 4294967296 / 256 : Nat) : Int) := by omega
        have g2 : ((UInt8.ofNat (width (u / 4294967296 / 256))).toNat : Int) = ((width (u / 4294967296 / 256) : Nat) : Int) := by rw [UInt8.toNat_ofNat']; omega
        have g3 : (((width (u / 4294967296 / 256) : Nat) : Int) + 9223372036854775808) % 18446744073709551616 - 9223372036854775808 = ((width (u / 4294967296 / 256) : Nat) : Int) := by omega
        have gw : width u = width (u / 4294967296 / 256) + 40 := by
          have w0 : width u = width (u / 4294967296) + 32 := width_shift 32 (by omega)
          have w1 : width (u / 4294967296) = width ((u / 4294967296) / 256) + 8 := width_shift 8 (by omega)
          omega
        have g4 : ((40 : Int) + ((width (u / 4294967296 / 256) : Nat) : Int) + 9223372036854775808) % 18446744073709551616 - 9223372036854775808 = ((width u : Nat) : Int) := by omega
        simp -implicitDefEqProofs (maxSteps := 4000000) only [go_sem, go_sem_proc, ↓reduceIte, Nat.min_def, e0, f0, e1, e2, f2, g0, g1, len8_tab, len8_get hv, g2, g3, g4]
      · have e2 : ¬ (256 : Int) ≤ ((u / 4294967296 : Nat) : Int) := by omega
        have hv : u / 4294967296 < 256 := by omega
        have hw := width8 hv
        have g0 : ((u / 4294967296 : Nat) : Int) % 256 = ((u / 4294967296 : Nat) : Int) := by omega
        have g1 : 0 ≤ ((u / 4294967296 : Nat) : Int) := by omega
        have g2 : ((UInt8.ofNat (width (u / 4294967296))).toNat : Int) = ((width (u / 4294967296) : Nat) : Int) := by rw [UInt8.toNat_ofNat']; omega
        have g3 : (((width (u / 4294967296) : Nat) : Int) + 9223372036854775808) % 18446744073709551616 - 9223372036854775808 = ((width (u / 4294967296) : Nat) : Int) := by omega
        have gw : width u = width (u / 4294967296) + 32 := by
          have w0 : width u = width (u / 4294967296) + 32 := width_shift 32 (by omega)
          omega
        have g4 : ((32 : Int) + ((width (u / 4294967296) : Nat) : Int) + 9223372036854775808) % 18446744073709551616 - 9223372036854775808 = ((width u : Nat) : Int) := by omega
        simp -implicitDefEqProofs (maxSteps := 4000000) only [go_sem, go_sem_proc, ↓reduceIte, Nat.min_def, e0, f0, e1, e2, g0, g1, len8_tab, len8_get hv, g2, g3, g4]
  · have e0 : ¬ (4294967296 : Int) ≤ ((u : Nat) : Int) := by omega
    by_cases h1 : 65536 ≤ u
    · have e1 : (65536 : Int) ≤ ((u : Nat) : Int) := by omega
      have f1 : ((u : Nat) : Int).fdiv 65536 = ((u / 65536 : Nat) : Int) := fdiv_nat _ _
      by_cases h2 : 256 ≤ u / 65536
      · have e2 : (256 : Int) ≤ ((u / 65536 : Nat) : Int) := by omega
        have f2 : ((u / 65536 : Nat) : Int).fdiv 256 = ((u / 65536 / 256 : Nat) : Int) := fdiv_nat _ _
        have hv : u / 65536 / 256 < 256 := by omega
        have hw := width8 hv
        have g0 : ((u / 65536 / 256 : Nat) : Int) % 256 = ((u / 65536 / 256 : Nat) : Int) := by omega
        have g1 : 0 ≤ ((u / 65536 / 256 : Nat) : Int) := by omega
        have g2 : ((UInt8.ofNat (width (u / 65536 / 256))).toNat : Int) = ((width (u / 65536 / 256) : Nat) : Int) := by rw [UInt8.toNat_ofNat']; omega
        have g3 : (((width (u / 65536 / 256) : Nat) : Int) + 9223372036854775808) % 18446744073709551616 - 9223372036854775808 = ((width (u / 65536 / 256) : Nat) : Int) := by omega
        have gw : width u = width (u / 65536 / 256) + 24 := by
          have w0 : width u = width (u / 65536) + 16 := width_shift 16 (by omega)
          have w1 : width (u / 65536) = width ((u / 65536) / 256) + 8 := width_shift 8 (by omega)
          omega
        have g4 : ((24 : Int) + ((width (u / 65536 / 256) : Nat) : Int) + 9223372036854775808) % 18446744073709551616 - 9223372036854775808 = ((width u : Nat) : Int) := by omega
        simp -implicitDefEqProofs (maxSteps := 4000000) only [go_sem, go_sem_proc, ↓reduceIte, Nat.min_def, e0, e1, f1, e2, f2, g0, g1, len8_tab, len8_get hv, g2, g3, g4]
      · have e2 : ¬ (256 : Int) ≤ ((u / 65536 : Nat) : Int) := by omega
        have hv : u / 65536 < 256 := by omega
        have hw := width8 hv
        have g0 : ((u / 65536 : Nat) : Int) % 256 = ((u / 65536 : Nat) : Int) := by omega
        have g1 : 0 ≤ ((u / 65536 : Nat) : Int) := by omega
        have g2 : ((UInt8.ofNat (width (u / 65536))).toNat : Int) = ((width (u / 65536) : Nat) : Int) := by rw [UInt8.toNat_ofNat']; omega
        have g3 : (((width (u / 65536) : Nat) : Int) + 9223372036854775808) % 18446744073709551616 - 9223372036854775808 = ((width (u / 65536) : Nat) : Int) := by omega
        have gw : width u = width (u / 65536) + 16 := by
          have w0 : width u = width (u / 65536) + 16 := width_shift 16 (by omega)
          omega
        have g4 : ((16 : Int) + ((width (u / 65536) : Nat) : Int) + 9223372036854775808) % 18446744073709551616 - 9223372036854775808 = ((width u : Nat) : Int) := by omega
        simp -implicitDefEqProofs (maxSteps := 4000000) only [go_sem, go_sem_proc, ↓reduceIte, Nat.min_def, e0, e1, f1, e2, g0, g1, len8_tab, len8_get hv, g2, g3, g4]
    · have e1 : ¬ (65536 : Int) ≤ ((u : Nat) : Int) := by omega
      by_cases h2 : 256 ≤ u
      · have e2 : (256 : Int) ≤ ((u : Nat) : Int) := by omega
        have f2 : ((u : Nat) : Int).fdiv 256 = ((u / 256 : Nat) : Int) := fdiv_nat _ _
        have hv : u / 256 < 256 := by omega
        have hw := width8 hv
        have g0 : ((u / 256 : Nat) : Int) % 256 = ((u / 256 : Nat) : Int) := by omega
        have g1 : 0 ≤ ((u / 256 : Nat) : Int) := by omega
        have g2 : ((UInt8.ofNat (width (u / 256))).toNat : Int) = ((width (u / 256) : Nat) : Int) := by rw [UInt8.toNat_ofNat']; omega
        have g3 : (((width (u / 256) : Nat) : Int) + 9223372036854775808) % 18446744073709551616 - 9223372036854775808 = ((width (u / 256) : Nat) : Int) := by omega
        have gw : width u = width (u / 256) + 8 := by
          have w0 : width u = width (u / 256) + 8 := width_shift 8 (by omega)
          omega
        have g4 : ((8 : Int) + ((width (u / 256) : Nat) : Int) + 9223372036854775808) % 18446744073709551616 - 9223372036854775808 = ((width u : Nat) : Int) := by omega
        simp -implicitDefEqProofs (maxSteps := 4000000) only [go_sem, go_sem_proc, ↓reduceIte, Nat.min_def, e0, e1, e2, f2, g0, g1, len8_tab, len8_get hv, g2, g3, g4]
      · have e2 : ¬ (256 : Int) ≤ ((u : Nat) : Int) := by omega
        have hv : u < 256 := by omega
        have hw := width8 hv
        have g0 : ((u : Nat) : Int) % 256 = ((u : Nat) : Int) := by omega
        have g1 : 0 ≤ ((u : Nat) : Int) := by omega
        have g2 : ((UInt8.ofNat (width (u))).toNat : Int) = ((width (u) : Nat) : Int) := by rw [UInt8.toNat_ofNat']; omega
        have g3 : (((width (u) : Nat) : Int) + 9223372036854775808) % 18446744073709551616 - 9223372036854775808 = ((width (u) : Nat) : Int) := by omega
        have gw : width u = width (u) + 0 := by
          rfl
        have g4 : ((0 : Int) + ((width (u) : Nat) : Int) + 9223372036854775808) % 18446744073709551616 - 9223372036854775808 = ((width u : Nat) : Int) := by omega
        simp -implicitDefEqProofs (maxSteps := 4000000) only [go_sem, go_sem_proc, ↓reduceIte, Nat.min_def, e0, e1, e2, g0, g1, len8_tab, len8_get hv, g2, g3, g4]
theorem Width_spec {u : Nat} (h : u < 18446744073709551616) : dw E 61 [.int .u64 u] [] = some (.int .i64 (width u), []) := by
  refine dw_intro (fn := Try.f61) rfl rfl (by decide) ?_
  simp -implicitDefEqProofs (maxSteps := 4000000) only [go_sem, go_sem_proc, ↓reduceIte, Nat.min_def, Len64_spec h]
end Go.Proofs.Ytmaehmacngldbaa.D
