/- The document's own numbers: the reader, numbers as bytes. -/
import Derived.Test.YtmaehmacngldbaaBitR
import Derived.Test.YtmaehmacngldbaaCode3
import Derived.Test.YtmaehmacngldbaaDenL2
namespace Go.Proofs.Ytmaehmacngldbaa.D
open Go Go.Den
set_option linter.unusedSimpArgs false
set_option linter.unusedVariables false
set_option maxRecDepth 20000
set_option maxHeartbeats 8000000
theorem bor64_128 {u : Int} (h0 : 0 ≤ u) : bor 64 (u % 128) 128 = u % 128 + 128 := by
  have := bor_add (a := 1) (b := (u % 128).toNat) 7 (by omega) (by omega)
  rw [Int.toNat_of_nonneg (by omega)] at this
  rw [show ((2 ^ 7 * 1 : Nat) : Int) = 128 from rfl] at this
  rw [this]; omega
/-- what is left of the document's reader -/
def refN (zs : List Int) : Option (Int × List Int) → PV × List (List PV)
  | some (v, r) => (.int .u64 v, [[.sl 1 (ints .u8 r), .bool false]])
  | none => (.int .u64 0, [[.sl 1 (ints .u8 zs), .bool true]])
theorem RefRNum_sl {zs : List Int} (hz : R8 zs) (hl : zs.length ≤ 1000000000000) : dw E 51 [.pb 16777216 0] [[.sl 1 (ints .u8 zs), .bool false]] = some (refN zs (pnum 0 0 zs)) := by
  refine dw_intro (fn := Try.f51) rfl rfl (by simp) ?_
  simp -implicitDefEqProofs (maxSteps := 4000000) only [go_sem, go_sem_proc, ↓reduceIte, Nat.min_def]
  refine runs_loop (fun a : Nat × Int => (⟨[(0, .pb 16777216 0), (3, .int .u64 a.2), (4, .int .i64 a.1)], [(16777216, some ⟨true, .box [.sl 1 (ints .u8 zs), .bool false]⟩)], 1⟩ : St)) (fun a => zs.length - a.1) (0, 0) ?_
    (fun a => a.1 ≤ zs.length ∧ a.1 ≤ 9 ∧ 0 ≤ a.2 ∧ a.2 < 128 ^ a.1 ∧ pnum 0 0 zs = pnum a.1 a.2 (zs.drop a.1)) ⟨by simp, by simp, by simp, by simp, by simp⟩ ?_
  · simp -implicitDefEqProofs (maxSteps := 4000000) only [go_sem, go_sem_proc, ↓reduceIte, Nat.min_def]
  · rintro ⟨i, u⟩ ⟨hi, hi9, hu0, hu1, hp⟩
    dsimp only at hi hi9 hu0 hu1 hp
    have h10 : (i : Int) < 10 := by omega
    by_cases hlt : i < zs.length
    · have hlt' : (i : Int) < zs.length := by omega
      obtain ⟨c, hc⟩ : ∃ c, zs[i]? = some c := ⟨_, List.getElem?_eq_getElem hlt⟩
      obtain ⟨hc0, hc1⟩ := hz c (List.mem_of_getElem? hc)
      have hd : zs.drop i = c :: zs.drop (i + 1) := by
        rw [List.drop_eq_getElem_cons hlt, (List.getElem?_eq_some_iff.1 hc).2]
      rw [hd, pnum] at hp
      have ei : 0 ≤ (i : Int) := by omega
      by_cases hbad : (i = 9 ∧ 1 < c) ∨ (0 < i ∧ c = 0)
      · rw [if_pos hbad] at hp
        by_cases h9 : i = 9
        · have e9 : ((i : Int) = 9) = True := eq_true (by omega)
          have e0 : (0 : Int) < (i : Int) := by omega
          by_cases hcc : 1 < c
          · simp -implicitDefEqProofs (maxSteps := 4000000) only [go_sem, go_sem_proc, ↓reduceIte, Nat.min_def, hlt', h10, ei, hc, hp, e9, hcc, refN]
          · have ec : (c = 0) = True := eq_true (by omega)
            simp -implicitDefEqProofs (maxSteps := 4000000) only [go_sem, go_sem_proc, ↓reduceIte, Nat.min_def, hlt', h10, ei, hc, hp, e9, hcc, e0, ec, refN]
        · have e9 : ((i : Int) = 9) = False := eq_false (by omega)
          have e0 : (0 : Int) < (i : Int) := by omega
          have ec : (c = 0) = True := eq_true (by omega)
          simp -implicitDefEqProofs (maxSteps := 4000000) only [go_sem, go_sem_proc, ↓reduceIte, Nat.min_def, hlt', h10, ei, hc, hp, e9, e0, ec, refN]
      · rw [if_neg hbad] at hp
        have eb : bor 64 u (c % 128 % 18446744073709551616 * 2 ^ (if 7 * i ≤ 64 then 7 * i else 64) % 18446744073709551616) = u + c % 128 * 128 ^ i := by
          rw [if_pos (by omega), Int.emod_eq_of_lt (a := c % 128) (by omega) (by omega)]
          exact bor_shl hu0 hu1 (by omega) (by omega) hi9 (by omega)
        have e7 : (7 * (i : Int) + 9223372036854775808) % 18446744073709551616 - 9223372036854775808 = ((7 * i : Nat) : Int) := by omega
        have e72 : ((7 * i : Nat) : Int) % 18446744073709551616 = ((7 * i : Nat) : Int) := by omega
        have e71 : ¬ (((7 * i : Nat) : Int) < 0) := by omega
        have en : ((i : Int) + 1 + 9223372036854775808) % 18446744073709551616 - 9223372036854775808 = ((i + 1 : Nat) : Int) := by omega
        have en0 : 0 ≤ ((i + 1 : Nat) : Int) := by omega
        have en1 : ((i + 1 : Nat) : Int) ≤ zs.length := by omega
        have eu0 : 0 ≤ u + c % 128 * 128 ^ i := Int.add_nonneg hu0 (Int.mul_nonneg (by omega) (Int.pow_nonneg (by decide)))
        have eu1 : u + c % 128 * 128 ^ i < 128 ^ (i + 1) := by
          have h3 : c % 128 * 128 ^ i ≤ 127 * (128 : Int) ^ i := Int.mul_le_mul_of_nonneg_right (by omega) (Int.pow_nonneg (by decide))
          rw [Int.pow_succ]; omega
        by_cases h9 : i = 9
        · have e9 : ((i : Int) = 9) = True := eq_true (by omega)
          have hcc : ¬ 1 < c := by omega
          have e0 : (0 : Int) < (i : Int) := by omega
          have ec : (c = 0) = False := eq_false (by omega)
          have e8 : c < 128 := by omega
          rw [if_pos e8] at hp
          simp -implicitDefEqProofs (maxSteps := 4000000) only [go_sem, go_sem_proc, ↓reduceIte, Nat.min_def, hlt', h10, ei, hc, hp, e9, hcc, e0, ec, e8, band127 hc0 hc1, e7, e72, e71, eb, en, en0, en1, refN]
        · have e9 : ((i : Int) = 9) = False := eq_false (by omega)
          by_cases h0 : i = 0
          · have e0 : ¬ (0 : Int) < (i : Int) := by omega
            have ec : True := trivial
            by_cases c0 : c = 0
            · have ec0 := eq_true c0
              have e8 : c < 128 := by omega
              rw [if_pos e8] at hp
              simp -implicitDefEqProofs (maxSteps := 4000000) only [go_sem, go_sem_proc, ↓reduceIte, Nat.min_def, hlt', h10, ei, hc, hp, e9, e0, ec0, e8, band127 hc0 hc1, e7, e72, e71, eb, en, en0, en1, refN]
            · by_cases e8 : c < 128
              · rw [if_pos e8] at hp
                simp -implicitDefEqProofs (maxSteps := 4000000) only [go_sem, go_sem_proc, ↓reduceIte, Nat.min_def, hlt', h10, ei, hc, hp, e9, e0, c0, e8, band127 hc0 hc1, e7, e72, e71, eb, en, en0, en1, refN]
              · rw [if_neg e8] at hp
                simp -implicitDefEqProofs (maxSteps := 4000000) only [go_sem, go_sem_proc, ↓reduceIte, Nat.min_def, hlt', h10, ei, hc, e9, e0, c0, e8, band127 hc0 hc1, e7, e72, e71, eb, en]
                exact ⟨(i + 1, u + c % 128 * 128 ^ i), ⟨by omega, by omega, eu0, eu1, hp⟩, by omega, rfl⟩
          · have e0 : (0 : Int) < (i : Int) := by omega
            have ec : (c = 0) = False := eq_false (by omega)
            by_cases e8 : c < 128
            · rw [if_pos e8] at hp
              simp -implicitDefEqProofs (maxSteps := 4000000) only [go_sem, go_sem_proc, ↓reduceIte, Nat.min_def, hlt', h10, ei, hc, hp, e9, e0, ec, e8, band127 hc0 hc1, e7, e72, e71, eb, en, en0, en1, refN]
            · rw [if_neg e8] at hp
              simp -implicitDefEqProofs (maxSteps := 4000000) only [go_sem, go_sem_proc, ↓reduceIte, Nat.min_def, hlt', h10, ei, hc, e9, e0, ec, e8, band127 hc0 hc1, e7, e72, e71, eb, en]
              exact ⟨(i + 1, u + c % 128 * 128 ^ i), ⟨by omega, by omega, eu0, eu1, hp⟩, by omega, rfl⟩
    · have hlt' : ¬ (i : Int) < zs.length := by omega
      have : zs.drop i = [] := List.drop_eq_nil_of_le (by omega)
      rw [this, pnum] at hp
      simp -implicitDefEqProofs (maxSteps := 4000000) only [go_sem, go_sem_proc, ↓reduceIte, Nat.min_def, hlt', hp, refN]
theorem RefNum_sl {zs : List Int} {u : Int} (hl : zs.length ≤ 1000000000) (h0 : 0 ≤ u) (h1 : u < 18446744073709551616) :
    dw E 44 [.sl 1 (ints .u8 zs), .int .u64 u] [] = some (.nr 5 1 (ints .u8 (zs ++ num u)), []) := by
  have hten := num_len10 h0 h1
  refine dw_in (fn := Try.f44) rfl body44 (by simp) ?_
  simp -implicitDefEqProofs (maxSteps := 4000000) (disch := omega) only [go_sem, go_sem_proc, dr, Nat.min_def, ↓reduceIte]
  refine runs_any (fun a : List Int × Int => (⟨[(1, .int .u64 a.2), (5, .h 2097472)], [(2097472, some ⟨true, .row 5 1 (ints .u8 (zs ++ a.1))⟩)], 1⟩ : St)) (fun a => a.2.toNat) ([], u)
    (fun a => 0 ≤ a.2 ∧ a.2 < 18446744073709551616 ∧ a.1 ++ num a.2 = num u) ⟨h0, h1, rfl⟩ ?_ ?_
  · simp -implicitDefEqProofs (maxSteps := 4000000) (disch := omega) only [go_sem, go_sem_proc, dr, Nat.min_def, ↓reduceIte, List.append_nil]
  · rintro ⟨xs, v⟩ ⟨hv0, hv1, hx⟩
    dsimp only at hv0 hv1 hx ⊢
    have hlen := congrArg List.length hx
    simp only [List.length_append] at hlen
    have hpos := num_pos v
    have hzx : (zs ++ xs).length ≤ 1000000010 := by rw [List.length_append]; omega
    by_cases hv : v < 128
    · rw [num_lt hv0 hv] at hx
      have e1 : v % 256 = v := by omega
      rw [← hx, ← List.append_assoc]
      generalize zs ++ xs = y at *
      clear hx hlen
      simp -implicitDefEqProofs (maxSteps := 4000000) (disch := omega) only [go_sem, go_sem_proc, dr, Nat.min_def, ↓reduceIte, e1]
    · have e4 : band 64 v 127 = v % 128 := band_mask hv0 hv1 7 (by decide)
      have e5 : (v % 128 + 128) % 256 = v % 128 + 128 := by omega
      rw [num_ge (by omega)] at hx
      have e6 := bor64_128 hv0
      have e7 : zs ++ (xs ++ [v % 128 + 128]) = (zs ++ xs) ++ [v % 128 + 128] := by rw [List.append_assoc]
      generalize hy : zs ++ xs = y at *
      clear hlen
      simp -implicitDefEqProofs (maxSteps := 4000000) (disch := omega) only [go_sem, go_sem_proc, dr, Nat.min_def, ↓reduceIte, e4, e5, e6]
      refine ⟨(xs ++ [v % 128 + 128], v / 128), by dsimp only; rw [e7], ⟨by dsimp only; omega, by dsimp only; omega, by dsimp only; rw [List.append_assoc]; exact hx⟩, by dsimp only; omega⟩
theorem RefNum_nils {u : Int} (h0 : 0 ≤ u) (h1 : u < 18446744073709551616) :
    dw E 44 [.nils, .int .u64 u] [] = some (.nr 5 1 (ints .u8 (num u)), []) := by
  have hten := num_len10 h0 h1
  refine dw_in (fn := Try.f44) rfl body44 (by simp) ?_
  simp -implicitDefEqProofs (maxSteps := 4000000) (disch := omega) only [go_sem, go_sem_proc, dr, Nat.min_def, ↓reduceIte]
  refine runs_any (fun a : List Int × Int => (⟨[(1, .int .u64 a.2), (5, .h 2097472)], [(2097472, some ⟨true, .row 5 1 (ints .u8 a.1)⟩)], 1⟩ : St)) (fun a => a.2.toNat) ([], u)
    (fun a => 0 ≤ a.2 ∧ a.2 < 18446744073709551616 ∧ a.1 ++ num a.2 = num u) ⟨h0, h1, rfl⟩ ?_ ?_
  · simp -implicitDefEqProofs (maxSteps := 4000000) (disch := omega) only [go_sem, go_sem_proc, dr, Nat.min_def, ↓reduceIte]
    rfl
  · rintro ⟨xs, v⟩ ⟨hv0, hv1, hx⟩
    dsimp only at hv0 hv1 hx ⊢
    have hlen := congrArg List.length hx
    simp only [List.length_append] at hlen
    have hpos := num_pos v
    by_cases hv : v < 128
    · rw [num_lt hv0 hv] at hx
      have e1 : v % 256 = v := by omega
      rw [← hx]
      clear hx
      simp -implicitDefEqProofs (maxSteps := 4000000) (disch := omega) only [go_sem, go_sem_proc, dr, Nat.min_def, ↓reduceIte, e1]
    · have e4 : band 64 v 127 = v % 128 := band_mask hv0 hv1 7 (by decide)
      have e5 : (v % 128 + 128) % 256 = v % 128 + 128 := by omega
      rw [num_ge (by omega)] at hx
      have e6 := bor64_128 hv0
      simp -implicitDefEqProofs (maxSteps := 4000000) (disch := omega) only [go_sem, go_sem_proc, dr, Nat.min_def, ↓reduceIte, e4, e5, e6]
      refine ⟨(xs ++ [v % 128 + 128], v / 128), rfl, ⟨by dsimp only; omega, by dsimp only; omega, by dsimp only; rw [List.append_assoc]; exact hx⟩, by dsimp only; omega⟩
theorem RefZig_spec {n : Int} (h0 : -9223372036854775808 ≤ n) (h1 : n < 9223372036854775808) : dw E 47 [.int .i64 n] [] = some (.int .u64 (zig n), []) := by
  refine dw_in (fn := Try.f47) rfl body47 (by simp) ?_
  by_cases h : n < 0
  · have e : zig n = 2 * (0 - (n + 1)) + 1 := by unfold zig; split <;> omega
    rw [e]
    simp -implicitDefEqProofs (maxSteps := 4000000) (disch := omega) only [go_sem, go_sem_proc, dr, Nat.min_def, ↓reduceIte]
  · have e : zig n = 2 * n := by unfold zig; split <;> omega
    rw [e]
    simp -implicitDefEqProofs (maxSteps := 4000000) (disch := omega) only [go_sem, go_sem_proc, dr, Nat.min_def, ↓reduceIte]
theorem RefZag_spec {u : Int} (h0 : 0 ≤ u) (h1 : u < 18446744073709551616) : dw E 52 [.int .u64 u] [] = some (.int .i64 (zag u), []) := by
  have eb : band 64 u 1 = u % 2 := band_mask h0 h1 1 (by decide)
  refine dw_in (fn := Try.f52) rfl body52 (by simp) ?_
  by_cases h : u % 2 = 1
  · have e : zag u = 0 - u / 2 - 1 := by unfold zag; split <;> omega
    rw [e]
    simp -implicitDefEqProofs (maxSteps := 4000000) (disch := omega) only [go_sem, go_sem_proc, dr, Nat.min_def, ↓reduceIte, eb, h]
  · have e : zag u = u / 2 := by unfold zag; split <;> omega
    rw [e]
    have h := eq_false h
    simp -implicitDefEqProofs (maxSteps := 4000000) (disch := omega) only [go_sem, go_sem_proc, dr, Nat.min_def, ↓reduceIte, eb, h]
end Go.Proofs.Ytmaehmacngldbaa.D
