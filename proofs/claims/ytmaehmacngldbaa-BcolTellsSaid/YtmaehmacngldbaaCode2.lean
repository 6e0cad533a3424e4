/- Numbers, and bytes, behind bytes. -/
import Derived.Test.YtmaehmacngldbaaCode1
namespace Go.Proofs.Ytmaehmacngldbaa.D
open Go Go.Den
set_option linter.unusedSimpArgs false
set_option linter.unusedVariables false
set_option maxRecDepth 20000
theorem Num_spec {o : Option (List Int)} {u : Int} (hl : (bz o).length ≤ 1000000000) (h0 : 0 ≤ u) (h1 : u < 18446744073709551616) :
    dw E 63 [bl o, .int .u64 u] [] = some (.nr 5 1 (ints .u8 (bz o ++ num u)), []) := by
  refine dw_intro (fn := Try.f63) rfl rfl (by decide) ?_
  simp -implicitDefEqProofs (maxSteps := 4000000) only [go_sem, go_sem_proc, ↓reduceIte, Nat.min_def, cloneF_bl o 5 (by omega)]
  have hten := num_len10 h0 h1
  refine runs_loop (fun a : List Int × Int => (⟨[(1, .int .u64 a.2), (5, .h 2097472)], [(2097472, some ⟨true, .row 5 1 (ints .u8 a.1)⟩)], 1⟩ : St)) (fun a => a.2.toNat) (bz o, u) ?_
    (fun a => 0 ≤ a.2 ∧ a.2 < 18446744073709551616 ∧ a.1 ++ num a.2 = bz o ++ num u) ⟨h0, h1, rfl⟩ ?_
  · simp -implicitDefEqProofs (maxSteps := 4000000) only [go_sem, go_sem_proc, ↓reduceIte, Nat.min_def]
  · rintro ⟨xs, v⟩ ⟨hv0, hv1, hx⟩
    have hlen := congrArg List.length hx
    simp only [List.length_append] at hlen
    have hpos := num_pos v
    by_cases hv : v < 128
    · have e1 : v % 256 = v := by omega
      have e2 : ¬ 128 ≤ v := by omega
      have e3 : (xs.length + 1) * 2 ≤ 70368744177664 := by omega
      simp -implicitDefEqProofs (maxSteps := 4000000) only [go_sem, go_sem_proc, ↓reduceIte, Nat.min_def, e1, e2, e3]
      rw [num_lt hv0 hv] at hx
      rw [hx]
    · have e2 : 128 ≤ v := by omega
      have e3 : (xs.length + 1) * 2 ≤ 70368744177664 := by omega
      rw [num_ge e2] at hx
      simp -implicitDefEqProofs (maxSteps := 4000000) only [go_sem, go_sem_proc, ↓reduceIte, Nat.min_def, e2, e3, bor128 hv0]
      refine ⟨(xs ++ [v % 128 + 128], v.fdiv 128), ⟨?_, ?_, ?_⟩, ?_, ?_⟩
      · rw [Int.fdiv_eq_ediv_of_nonneg _ (by decide)]; omega
      · rw [Int.fdiv_eq_ediv_of_nonneg _ (by decide)]; omega
      · rw [Int.fdiv_eq_ediv_of_nonneg _ (by decide), List.append_assoc]; exact hx
      · rw [Int.fdiv_eq_ediv_of_nonneg _ (by decide)]; omega
      · rfl
theorem Num_sl {zs : List Int} {u : Int} (hl : zs.length ≤ 1000000000) (h0 : 0 ≤ u) (h1 : u < 18446744073709551616) :
    dw E 63 [.sl 1 (ints .u8 zs), .int .u64 u] [] = some (.nr 5 1 (ints .u8 (zs ++ num u)), []) := Num_spec (o := some zs) hl h0 h1
theorem Num_nils {u : Int} (h0 : 0 ≤ u) (h1 : u < 18446744073709551616) :
    dw E 63 [.nils, .int .u64 u] [] = some (.nr 5 1 (ints .u8 (num u)), []) := Num_spec (o := none) (by decide) h0 h1
theorem Bytes_spec {o q : Option (List Int)} (hl : (bz o).length ≤ 1000000000 - 10) (hq : (bz q).length ≤ 1000000000) :
    dw E 62 [bl o, bl q] [] = some (.nr 5 1 (ints .u8 (bz o ++ num (bz q).length ++ bz q)), []) := by
  refine dw_intro (fn := Try.f62) rfl rfl (by decide) ?_
  have e1 : ((bz q).length : Int) % 18446744073709551616 = (bz q).length := by omega
  have e2 := num_len10 (u := ((bz q).length : Int)) (by omega) (by omega)
  have e3 : ((bz o).length + (num ((bz q).length : Int)).length + (bz q).length) * 2 ≤ 70368744177664 := by omega
  simp -implicitDefEqProofs (maxSteps := 4000000) only [go_sem, go_sem_proc, ↓reduceIte, Nat.min_def, e1, Num_spec (o := o) (u := ((bz q).length : Int)) (by omega) (by omega) (by omega), e3, List.length_append]
theorem Bytes_sl {zs xs : List Int} (hl : zs.length ≤ 1000000000 - 10) (hq : xs.length ≤ 1000000000) :
    dw E 62 [.sl 1 (ints .u8 zs), .sl 1 (ints .u8 xs)] [] = some (.nr 5 1 (ints .u8 (zs ++ num xs.length ++ xs)), []) := Bytes_spec (o := some zs) (q := some xs) hl hq
theorem Read_spec {o : Option (List Int)} (hl : (bz o).length ≤ 1000000000000) :
    dw E 19 [bl o] [] = some (.nb [.nr 5 1 (ints .u8 (bz o)), .bool false], []) := by
  refine dw_intro (fn := Try.f19) rfl rfl (by decide) ?_
  simp -implicitDefEqProofs (maxSteps := 4000000) only [go_sem, go_sem_proc, ↓reduceIte, Nat.min_def, cloneF_bl o 5 hl]
theorem Ok_spec {o : Option (List Int)} {b : Bool} : dw E 35 [.pb 16777216 0] [[bl o, .bool b]] = some (.bool (!b), [[bl o, .bool b]]) := by
  refine dw_intro (fn := Try.f35) rfl rfl (by simp) ?_
  simp -implicitDefEqProofs (maxSteps := 4000000) only [go_sem, go_sem_proc, ↓reduceIte, Nat.min_def]
theorem Rest_spec {o : Option (List Int)} {b : Bool} (hl : (bz o).length ≤ 1000000000000) : dw E 37 [.pb 16777216 0] [[bl o, .bool b]] = some (.nr 5 1 (ints .u8 (bz o)), [[bl o, .bool b]]) := by
  refine dw_intro (fn := Try.f37) rfl rfl (by simp) ?_
  simp -implicitDefEqProofs (maxSteps := 4000000) only [go_sem, go_sem_proc, ↓reduceIte, Nat.min_def, cloneF_bl o 5 hl]
theorem fail_spec {o : Option (List Int)} {b : Bool} : dw E 55 [.pb 16777216 0] [[bl o, .bool b]] = some (.tup [], [[.nils, .bool true]]) := by
  refine dw_intro (fn := Try.f55) rfl rfl (by simp) ?_
  simp -implicitDefEqProofs (maxSteps := 4000000) only [go_sem, go_sem_proc, ↓reduceIte, Nat.min_def]
theorem fail_nils {b : Bool} : dw E 55 [.pb 16777216 0] [[.nils, .bool b]] = some (.tup [], [[.nils, .bool true]]) := fail_spec (o := none)
theorem fail_sl {zs : List Int} {b : Bool} : dw E 55 [.pb 16777216 0] [[.sl 1 (ints .u8 zs), .bool b]] = some (.tup [], [[.nils, .bool true]]) := fail_spec (o := some zs)
theorem Ok_nils {b : Bool} : dw E 35 [.pb 16777216 0] [[.nils, .bool b]] = some (.bool (!b), [[.nils, .bool b]]) := Ok_spec (o := none)
theorem Ok_sl {zs : List Int} {b : Bool} : dw E 35 [.pb 16777216 0] [[.sl 1 (ints .u8 zs), .bool b]] = some (.bool (!b), [[.sl 1 (ints .u8 zs), .bool b]]) := Ok_spec (o := some zs)
theorem Rest_nils {b : Bool} : dw E 37 [.pb 16777216 0] [[.nils, .bool b]] = some (.nr 5 1 [], [[.nils, .bool b]]) := Rest_spec (o := none) (by decide)
theorem Rest_sl {zs : List Int} {b : Bool} (hl : zs.length ≤ 1000000000000) : dw E 37 [.pb 16777216 0] [[.sl 1 (ints .u8 zs), .bool b]] = some (.nr 5 1 (ints .u8 zs), [[.sl 1 (ints .u8 zs), .bool b]]) := Rest_spec (o := some zs) hl
theorem Read_sl {zs : List Int} (hl : zs.length ≤ 1000000000000) : dw E 19 [.sl 1 (ints .u8 zs)] [] = some (.nb [.nr 5 1 (ints .u8 zs), .bool false], []) := Read_spec (o := some zs) hl
end Go.Proofs.Ytmaehmacngldbaa.D
