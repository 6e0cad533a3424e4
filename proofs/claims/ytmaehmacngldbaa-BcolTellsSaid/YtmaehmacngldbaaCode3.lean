/- Numbers, and bytes, read. -/
import Derived.Test.YtmaehmacngldbaaCode2
namespace Go.Proofs.Ytmaehmacngldbaa.D
open Go Go.Den
set_option linter.unusedSimpArgs false
set_option linter.unusedVariables false
set_option maxRecDepth 20000
/-- what is left of a reader -/
def readN (b : Bool) : Option (Int × List Int) → PV × List (List PV)
  | some (v, r) => (.int .u64 v, [[.sl 1 (ints .u8 r), .bool b]])
  | none => (.int .u64 0, [[.nils, .bool true]])
theorem RNum_nils {b : Bool} : dw E 34 [.pb 16777216 0] [[.nils, .bool b]] = some (.int .u64 0, [[.nils, .bool true]]) := by
  refine dw_intro (fn := Try.f34) rfl rfl (by simp) ?_
  simp -implicitDefEqProofs (maxSteps := 4000000) only [go_sem, go_sem_proc, ↓reduceIte, Nat.min_def]
  refine runs_loop (fun a : Unit => (⟨[(0, .pb 16777216 0), (3, .int .u64 0), (9, .nils), (10, .int .i64 0), (11, .int .i64 0)], [(16777216, some ⟨true, .box [.nils, .bool b]⟩)], 1⟩ : St)) (fun a => 0) () ?_
    (fun a => True) trivial ?_
  · simp -implicitDefEqProofs (maxSteps := 4000000) only [go_sem, go_sem_proc, ↓reduceIte, Nat.min_def]
  · intro _ _
    simp -implicitDefEqProofs (maxSteps := 4000000) only [go_sem, go_sem_proc, ↓reduceIte, Nat.min_def, fail_nils]
theorem RNum_sl {zs : List Int} {b : Bool} (hz : R8 zs) (hl : zs.length ≤ 1000000000000) : dw E 34 [.pb 16777216 0] [[.sl 1 (ints .u8 zs), .bool b]] = some (readN b (pnum 0 0 zs)) := by
  refine dw_intro (fn := Try.f34) rfl rfl (by simp) ?_
  simp -implicitDefEqProofs (maxSteps := 4000000) only [go_sem, go_sem_proc, ↓reduceIte, Nat.min_def]
  refine runs_loop (fun a : Nat × Int => (⟨[(0, .pb 16777216 0), (3, .int .u64 a.2), (9, .sl 1 (ints .u8 zs)), (10, .int .i64 zs.length), (11, .int .i64 a.1)], [(16777216, some ⟨true, .box [.sl 1 (ints .u8 zs), .bool b]⟩)], 1⟩ : St)) (fun a => zs.length - a.1) (0, 0) ?_
    (fun a => a.1 ≤ zs.length ∧ a.1 ≤ 9 ∧ 0 ≤ a.2 ∧ a.2 < 128 ^ a.1 ∧ pnum 0 0 zs = pnum a.1 a.2 (zs.drop a.1)) ⟨by simp, by simp, by simp, by simp, by simp⟩ ?_
  · simp -implicitDefEqProofs (maxSteps := 4000000) only [go_sem, go_sem_proc, ↓reduceIte, Nat.min_def]
  · rintro ⟨i, u⟩ ⟨hi, hi9, hu0, hu1, hp⟩
    dsimp only at hi hi9 hu0 hu1 hp
    by_cases hlt : i < zs.length
    · have hlt' : (i : Int) < zs.length := by omega
      obtain ⟨c, hc⟩ : ∃ c, zs[i]? = some c := ⟨_, List.getElem?_eq_getElem hlt⟩
      obtain ⟨hc0, hc1⟩ := hz c (List.mem_of_getElem? hc)
      have hd : zs.drop i = c :: zs.drop (i + 1) := by
        rw [List.drop_eq_getElem_cons hlt]; congr 1; rw [List.getElem?_eq_getElem hlt] at hc; simpa using hc
      rw [hd, pnum] at hp
      have ei : 0 ≤ (i : Int) := by omega
      by_cases hbad : (i = 9 ∧ 1 < c) ∨ (0 < i ∧ c = 0)
      · rw [if_pos hbad] at hp
        by_cases h9 : i = 9
        · have e9 : ((i : Int) = 9) = True := eq_true (by omega)
          have e0 : (0 : Int) < (i : Int) := by omega
          by_cases hcc : 1 < c
          · simp -implicitDefEqProofs (maxSteps := 4000000) only [go_sem, go_sem_proc, ↓reduceIte, Nat.min_def, hlt', ei, hc, hp, e9, hcc, fail_sl, readN]
          · have ec : (c = 0) = True := eq_true (by omega)
            simp -implicitDefEqProofs (maxSteps := 4000000) only [go_sem, go_sem_proc, ↓reduceIte, Nat.min_def, hlt', ei, hc, hp, e9, hcc, e0, ec, fail_sl, readN]
        · have e9 : ((i : Int) = 9) = False := eq_false (by omega)
          have e0 : (0 : Int) < (i : Int) := by omega
          have ec : (c = 0) = True := eq_true (by omega)
          simp -implicitDefEqProofs (maxSteps := 4000000) only [go_sem, go_sem_proc, ↓reduceIte, Nat.min_def, hlt', ei, hc, hp, e9, e0, ec, fail_sl, readN]
      · rw [if_neg hbad] at hp
        have eb : bor 64 u (c % 128 % 18446744073709551616 * 2 ^ (if 7 * i ≤ 64 then 7 * i else 64) % 18446744073709551616) = u + c % 128 * 128 ^ i := by
          rw [if_pos (by omega), Int.emod_eq_of_lt (a := c % 128) (by omega) (by omega)]
          exact bor_shl hu0 hu1 (by omega) (by omega) hi9 (by omega)
        have e7 : (7 * (i : Int) + 9223372036854775808) % 18446744073709551616 - 9223372036854775808 = ((7 * i : Nat) : Int) := by omega
        have e71 : ¬ (((7 * i : Nat) : Int) < 0) := by omega
        have el : (i : Int) + 1 ≤ zs.length := by omega
        have en : ((i : Int) + 1 + 9223372036854775808) % 18446744073709551616 - 9223372036854775808 = ((i + 1 : Nat) : Int) := by omega
        have en0 : 0 ≤ ((i + 1 : Nat) : Int) := by omega
        have en1 : ((i + 1 : Nat) : Int) ≤ zs.length := by omega
        by_cases h9 : i = 9
        · have e9 : ((i : Int) = 9) = True := eq_true (by omega)
          have hcc : ¬ 1 < c := by omega
          have e0 : (0 : Int) < (i : Int) := by omega
          have ec : (c = 0) = False := eq_false (by omega)
          have e8 : c < 128 := by omega
          rw [if_pos e8] at hp
          simp -implicitDefEqProofs (maxSteps := 4000000) only [go_sem, go_sem_proc, ↓reduceIte, Nat.min_def, hlt', ei, hc, hp, e9, hcc, e0, ec, e8, band127 hc0 hc1, e7, e71, eb, en, en0, en1, readN]
        · have e9 : ((i : Int) = 9) = False := eq_false (by omega)
          have eu0 : 0 ≤ u + c % 128 * 128 ^ i := Int.add_nonneg hu0 (Int.mul_nonneg (by omega) (Int.pow_nonneg (by decide)))
          have eu1 : u + c % 128 * 128 ^ i < 128 ^ (i + 1) := by
            have h3 : c % 128 * 128 ^ i ≤ 127 * (128 : Int) ^ i := Int.mul_le_mul_of_nonneg_right (by omega) (Int.pow_nonneg (by decide))
            rw [Int.pow_succ]; omega
          by_cases h0 : i = 0
          · have e0 : ¬ (0 : Int) < (i : Int) := by omega
            by_cases e8 : c < 128
            · rw [if_pos e8] at hp
              simp -implicitDefEqProofs (maxSteps := 4000000) only [go_sem, go_sem_proc, ↓reduceIte, Nat.min_def, hlt', ei, hc, hp, e9, e0, e8, band127 hc0 hc1, e7, e71, eb, en, en0, en1, readN]
            · rw [if_neg e8] at hp
              simp -implicitDefEqProofs (maxSteps := 4000000) only [go_sem, go_sem_proc, ↓reduceIte, Nat.min_def, hlt', ei, hc, e9, e0, e8, band127 hc0 hc1, e7, e71, eb, en]
              exact ⟨(i + 1, u + c % 128 * 128 ^ i), ⟨by omega, by omega, eu0, eu1, hp⟩, by omega, rfl⟩
          · have e0 : (0 : Int) < (i : Int) := by omega
            have ec : (c = 0) = False := eq_false (by omega)
            by_cases e8 : c < 128
            · rw [if_pos e8] at hp
              simp -implicitDefEqProofs (maxSteps := 4000000) only [go_sem, go_sem_proc, ↓reduceIte, Nat.min_def, hlt', ei, hc, hp, e9, e0, ec, e8, band127 hc0 hc1, e7, e71, eb, en, en0, en1, readN]
            · rw [if_neg e8] at hp
              simp -implicitDefEqProofs (maxSteps := 4000000) only [go_sem, go_sem_proc, ↓reduceIte, Nat.min_def, hlt', ei, hc, e9, e0, ec, e8, band127 hc0 hc1, e7, e71, eb, en]
              exact ⟨(i + 1, u + c % 128 * 128 ^ i), ⟨by omega, by omega, eu0, eu1, hp⟩, by omega, rfl⟩
    · have hlt' : ¬ (i : Int) < zs.length := by omega
      have : zs.drop i = [] := List.drop_eq_nil_of_le (by omega)
      rw [this, pnum] at hp
      simp -implicitDefEqProofs (maxSteps := 4000000) only [go_sem, go_sem_proc, ↓reduceIte, Nat.min_def, hlt', fail_sl, hp, readN]
/-- what bytes come to -/
def readB (b : Bool) : Option (Int × List Int) → PV × List (List PV)
  | some (n, r) => if n ≤ r.length ∧ n ≤ 100 then (.nr 5 1 (ints .u8 (r.take n.toNat)), [[.sl 1 (ints .u8 (r.drop n.toNat)), .bool b]]) else (.nils, [[.nils, .bool true]])
  | none => (.nils, [[.nils, .bool true]])
theorem RBytes_nils {b : Bool} {top : Int} : dw E 33 [.pb 16777216 0, .int .i64 top] [[.nils, .bool b]] = some (.nils, [[.nils, .bool true]]) := by
  refine dw_intro (fn := Try.f33) rfl rfl (by simp) ?_
  simp -implicitDefEqProofs (maxSteps := 4000000) only [go_sem, go_sem_proc, ↓reduceIte, Nat.min_def, RNum_nils, fail_nils]
theorem RBytes_sl {zs : List Int} (hz : R8 zs) (hl : zs.length ≤ 1000000000000) : dw E 33 [.pb 16777216 0, .int .i64 100] [[.sl 1 (ints .u8 zs), .bool false]] = some (readB false (pnum 0 0 zs)) := by
  refine dw_intro (fn := Try.f33) rfl rfl (by simp) ?_
  cases hp : pnum 0 0 zs with
  | none => simp -implicitDefEqProofs (maxSteps := 4000000) only [go_sem, go_sem_proc, ↓reduceIte, Nat.min_def, RNum_sl hz hl, hp, readN, readB, fail_nils]
  | some x =>
    obtain ⟨n, r⟩ := x
    have hr : r.length ≤ zs.length := Nat.le_of_lt (pnum_len hp)
    have hn : 0 ≤ n := pnum_nonneg hp (by decide)
    have e1 : (r.length : Int) % 18446744073709551616 = r.length := by omega
    by_cases h1 : n ≤ r.length
    · have e2 : ¬ (r.length : Int) < n := by omega
      by_cases h2 : n ≤ 100
      · have e3 : ¬ 100 < n := by omega
        have e4 : (r.take n.toNat).length * 2 ≤ 70368744177664 := by rw [List.length_take]; omega
        simp -implicitDefEqProofs (maxSteps := 4000000) only [go_sem, go_sem_proc, ↓reduceIte, Nat.min_def, RNum_sl hz hl, hp, readN, readB, fail_sl, e1, e2, e3, hn, h1, h2, cloneF_sl 5 1 (r.take n.toNat) e4]
      · have e3 : 100 < n := by omega
        simp -implicitDefEqProofs (maxSteps := 4000000) only [go_sem, go_sem_proc, ↓reduceIte, Nat.min_def, RNum_sl hz hl, hp, readN, readB, fail_sl, e1, e2, e3, h2]
    · have e2 : (r.length : Int) < n := by omega
      simp -implicitDefEqProofs (maxSteps := 4000000) only [go_sem, go_sem_proc, ↓reduceIte, Nat.min_def, RNum_sl hz hl, hp, readN, readB, fail_sl, e1, e2, h1]
end Go.Proofs.Ytmaehmacngldbaa.D
