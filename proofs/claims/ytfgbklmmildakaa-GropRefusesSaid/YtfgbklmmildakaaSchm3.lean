/- Schemas and rows of numbers: what the functions come to. -/
import Derived.Test.YtfgbklmmildakaaSchm2
namespace Go.Proofs.Ytfgbklmmildakaa.D
open Go Go.Den
set_option linter.unusedSimpArgs false
set_option linter.unusedVariables false
set_option maxRecDepth 20000
set_option maxHeartbeats 4000000
theorem Schema_spec {n : Int} : dw E 5 [.int .i64 n] [] = some (.agg [.nr 54 3 ((schemaN n).map Col.pv)], []) := by
  refine dw_intro (fn := Try.f5) rfl rfl (by decide) ?_
  simp -implicitDefEqProofs (maxSteps := 4000000) only [go_sem, go_sem_proc, ↓reduceIte, Nat.min_def]
  refine runs_loop (fun i : Nat => (⟨[(0, .int .i64 n), (2, .pb 1048578 0), (3, .pb 1048579 0), (4, .h 2097408), (5, .int .i64 i)],
      [(1048578, some ⟨true, .box [.nils]⟩), (1048579, some ⟨true, .box [.h 2097344]⟩), (2097344, some ⟨true, .row 54 3 ((colsN n i).map Col.pv)⟩),
       (2097408, some ⟨true, .row 9 1 [[.str [97]], [.str [98, 98]], [.str [99, 99, 99]], [.str [110, 117, 108, 108]], [.str [97, 110, 100]]]⟩)], 1⟩ : St)) (fun i => manyN n - i) 0 ?_
    (fun i => i ≤ manyN n) (by omega) ?_
  · simp -implicitDefEqProofs (maxSteps := 4000000) only [go_sem, go_sem_proc, ↓reduceIte, Nat.min_def]
    rfl
  · intro i hi
    have hk := manyN_lt n
    have ek : (n % 256).tmod 6 = ((manyN n : Nat) : Int) := by
      rw [Int.tmod_eq_emod_of_nonneg (by omega)]; unfold manyN; omega
    by_cases hlt : i < manyN n
    · have hlt' : (i : Int) < ((manyN n : Nat) : Int) := by omega
      have h5 : (i : Int) < 5 := by omega
      have h5n : i < 5 := by omega
      have ei : 0 ≤ (i : Int) := by omega
      have en : ((i : Int) + 1 + 9223372036854775808) % 18446744073709551616 - 9223372036854775808 = ((i + 1 : Nat) : Int) := by omega
      have a1 : (2 * (i : Int) + 9223372036854775808) % 18446744073709551616 - 9223372036854775808 = ((2 * i : Nat) : Int) := by omega
      have a2 : (8 + ((2 * i : Nat) : Int) + 9223372036854775808) % 18446744073709551616 - 9223372036854775808 = ((8 + 2 * i : Nat) : Int) := by omega
      have a3 : ((8 + 2 * i : Nat) : Int) % 18446744073709551616 = ((8 + 2 * i : Nat) : Int) := by omega
      have a4 : ¬ ((8 + 2 * i : Nat) : Int) < 0 := by omega
      have a5 : 8 + 2 * i ≤ 64 := by omega
      have b2 : (9 + ((2 * i : Nat) : Int) + 9223372036854775808) % 18446744073709551616 - 9223372036854775808 = ((9 + 2 * i : Nat) : Int) := by omega
      have b3 : ((9 + 2 * i : Nat) : Int) % 18446744073709551616 = ((9 + 2 * i : Nat) : Int) := by omega
      have b4 : ¬ ((9 + 2 * i : Nat) : Int) < 0 := by omega
      have b5 : 9 + 2 * i ≤ 64 := by omega
      have c1 : (n.fdiv (2 ^ (8 + 2 * i)) % 2 + 1 + 9223372036854775808) % 18446744073709551616 - 9223372036854775808 = n.fdiv (2 ^ (8 + 2 * i)) % 2 + 1 := by omega
      have hnm : ([[PV.str [97]], [PV.str [98, 98]], [PV.str [99, 99, 99]], [PV.str [110, 117, 108, 108]], [PV.str [97, 110, 100]]] : List (List PV))[i]? = some [.str (nameN i)] := by
        have : i = 0 ∨ i = 1 ∨ i = 2 ∨ i = 3 ∨ i = 4 := by omega
        rcases this with rfl | rfl | rfl | rfl | rfl <;> rfl
      have hlim : ((colsN n i).length + 1) * 33 ≤ 70368744177664 := by rw [colsN_length]; omega
      simp -implicitDefEqProofs (maxSteps := 4000000) only [go_sem, go_sem_proc, ↓reduceIte, Nat.min_def, ek, hlt', h5, h5n, ei, en, a1, a2, a3, a4, a5, b2, b3, b4, b5, c1, hnm, hlim]
      refine ⟨by change _ = true; kernel_rfl, i + 1, by omega, by omega, ?_⟩
      rw [colsN_succ, List.map_append]
      rfl
    · have hlt' : ¬ (i : Int) < ((manyN n : Nat) : Int) := by omega
      have hie : i = manyN n := by omega
      simp -implicitDefEqProofs (maxSteps := 4000000) only [go_sem, go_sem_proc, ↓reduceIte, Nat.min_def, ek, hlt', hie, Int.lt_irrefl, schemaN]
theorem Value_spec {nm : List UInt8} {k n : Int} {nl : Bool} : dw E 15 [.agg [.str nm, .int .i64 k, .bool nl], .int .i64 n] [] = some (.agg (valueN ⟨nm, k, nl⟩ n).pv, []) := by
  refine dw_intro (fn := Try.f15) rfl rfl (by decide) ?_
  by_cases hn : nl = true ∧ n % 8 = 0
  · obtain ⟨rfl, h8⟩ := hn
    have e8 := eq_true h8
    simp -implicitDefEqProofs (maxSteps := 4000000) only [go_sem, go_sem_proc, ↓reduceIte, Nat.min_def, e8, valueN, bl]
  · have hv : valueN ⟨nm, k, nl⟩ n = if k = 1 then ⟨false, k, intV n, none⟩ else ⟨false, k, 0, some (bytesV n)⟩ := by unfold valueN; rw [if_neg hn]
    rw [hv]
    have neg8 : ∀ x : Int, (0 - x % 8 + 9223372036854775808) % 18446744073709551616 - 9223372036854775808 = -(x % 8) := fun x => by omega
    have sub8 : ∀ x : Int, (9223372036854775807 - x % 8 + 9223372036854775808) % 18446744073709551616 - 9223372036854775808 = 9223372036854775807 - x % 8 := fun x => by omega
    by_cases hk : k = 1
    · have ek := eq_true hk
      cases nl with
      | false =>
        by_cases q0 : n.fdiv 64 % 16 = 0
        · have p0 := eq_true q0
          simp -implicitDefEqProofs (maxSteps := 4000000) only [go_sem, go_sem_proc, ↓reduceIte, Nat.min_def, ek, p0, intV, bl]
        · by_cases q1 : n.fdiv 64 % 16 = 1
          · have p1 := eq_true q1
            simp -implicitDefEqProofs (maxSteps := 4000000) only [go_sem, go_sem_proc, ↓reduceIte, Nat.min_def, ek, q0, p1, intV, neg8, bl]
          · by_cases q2 : n.fdiv 64 % 16 = 2
            · have p2 := eq_true q2
              simp -implicitDefEqProofs (maxSteps := 4000000) only [go_sem, go_sem_proc, ↓reduceIte, Nat.min_def, ek, q0, q1, p2, intV, sub8, bl]
            · simp -implicitDefEqProofs (maxSteps := 4000000) only [go_sem, go_sem_proc, ↓reduceIte, Nat.min_def, ek, q0, q1, q2, intV, bl]
      | true =>
        have h8 : ¬ n % 8 = 0 := fun h => hn ⟨rfl, h⟩
        by_cases q0 : n.fdiv 64 % 16 = 0
        · have p0 := eq_true q0
          simp -implicitDefEqProofs (maxSteps := 4000000) only [go_sem, go_sem_proc, ↓reduceIte, Nat.min_def, h8, ek, p0, intV, bl]
        · by_cases q1 : n.fdiv 64 % 16 = 1
          · have p1 := eq_true q1
            simp -implicitDefEqProofs (maxSteps := 4000000) only [go_sem, go_sem_proc, ↓reduceIte, Nat.min_def, h8, ek, q0, p1, intV, neg8, bl]
          · by_cases q2 : n.fdiv 64 % 16 = 2
            · have p2 := eq_true q2
              simp -implicitDefEqProofs (maxSteps := 4000000) only [go_sem, go_sem_proc, ↓reduceIte, Nat.min_def, h8, ek, q0, q1, p2, intV, sub8, bl]
            · simp -implicitDefEqProofs (maxSteps := 4000000) only [go_sem, go_sem_proc, ↓reduceIte, Nat.min_def, h8, ek, q0, q1, q2, intV, bl]
    · have s1 : (n.fdiv 8 % 4 + n.fdiv 32 % 4 + 9223372036854775808) % 18446744073709551616 - 9223372036854775808 = n.fdiv 8 % 4 + n.fdiv 32 % 4 := by omega
      have s2 : 0 ≤ n.fdiv 8 % 4 + n.fdiv 32 % 4 := by omega
      have s3 : n.fdiv 8 % 4 + n.fdiv 32 % 4 ≤ 8 := by omega
      have s4 : 0 ≤ n.fdiv 8 % 4 := by omega
      have s5 : n.fdiv 8 % 4 ≤ (((n.fdiv 8 % 4 + n.fdiv 32 % 4).toNat : Nat) : Int) := by omega
      cases nl with
      | false =>
        simp -implicitDefEqProofs (maxSteps := 4000000) only [go_sem, go_sem_proc, ↓reduceIte, Nat.min_def, hk, s1, s2, s3, s4, s5, bl, bytesV]
      | true =>
        have h8 : ¬ n % 8 = 0 := fun h => hn ⟨rfl, h⟩
        simp -implicitDefEqProofs (maxSteps := 4000000) only [go_sem, go_sem_proc, ↓reduceIte, Nat.min_def, h8, hk, s1, s2, s3, s4, s5, bl, bytesV]
theorem take_snoc {α : Type} {l : List α} {i : Nat} {x : α} (h : l[i]? = some x) : l.take (i + 1) = l.take i ++ [x] := by
  rw [List.take_add_one, h]; rfl
theorem Row_spec {s : List Col} {n : Int} (hs : s.length ≤ 20) : dw E 6 [.agg [.sl 3 (s.map Col.pv)], .int .i64 n] [] = some (.nr 31 4 ((rowN s n).map Val.pv), []) := by
  refine dw_intro (fn := Try.f6) rfl rfl (by decide) ?_
  simp -implicitDefEqProofs (maxSteps := 4000000) only [go_sem, go_sem_proc, ↓reduceIte, Nat.min_def]
  refine runs_loop (fun i : Nat => (⟨[(1, .int .i64 n), (5, .h 2097472), (9, .sl 3 (s.map Col.pv)), (10, .int .i64 s.length), (11, .int .i64 i)], [(2097472, some ⟨true, .row 31 4 (((rowN s n).take i).map Val.pv)⟩)], 1⟩ : St)) (fun i => s.length - i) 0 ?_
    (fun i => i ≤ s.length) (by omega) ?_
  · simp -implicitDefEqProofs (maxSteps := 4000000) only [go_sem, go_sem_proc, ↓reduceIte, Nat.min_def]
  · intro i hi
    by_cases hlt : i < s.length
    · obtain ⟨c, hc⟩ : ∃ c, s[i]? = some c := ⟨_, List.getElem?_eq_getElem hlt⟩
      have hr := rowN_get (n := n) hc
      have hlt' : (i : Int) < s.length := by omega
      have ei : 0 ≤ (i : Int) := by omega
      have en : ((i : Int) + 1 + 9223372036854775808) % 18446744073709551616 - 9223372036854775808 = ((i + 1 : Nat) : Int) := by omega
      have hlim : (((rowN s n).take i).length + 1) * 49 ≤ 70368744177664 := by rw [List.length_take, rowN_length]; omega
      by_cases h0 : i = 0
      · have e0 : ((i : Int) = 0) = True := eq_true (by omega)
        simp -implicitDefEqProofs (maxSteps := 4000000) only [go_sem, go_sem_proc, ↓reduceIte, Nat.min_def, hlt', ei, en, hc, e0, hlim]
        refine ⟨i + 1, by omega, by omega, ?_⟩
        rw [take_snoc hr, List.map_append, rowE, if_pos h0]
        rfl
      · have e0 : ((i : Int) = 0) = False := eq_false (by omega)
        have a1 : (3 * (i : Int) + 9223372036854775808) % 18446744073709551616 - 9223372036854775808 = ((3 * i : Nat) : Int) := by omega
        have a3 : ((3 * i : Nat) : Int) % 18446744073709551616 = ((3 * i : Nat) : Int) := by omega
        have a4 : ¬ ((3 * i : Nat) : Int) < 0 := by omega
        have a5 : 3 * i ≤ 64 := by omega
        simp -implicitDefEqProofs (maxSteps := 4000000) only [go_sem, go_sem_proc, ↓reduceIte, Nat.min_def, hlt', ei, en, hc, e0, hlim, a1, a3, a4, a5, Value_spec]
        refine ⟨i + 1, by omega, by omega, ?_⟩
        rw [take_snoc hr, List.map_append, rowE, if_neg h0]
        rfl
    · have hlt' : ¬ (i : Int) < s.length := by omega
      have ht : (rowN s n).take i = rowN s n := List.take_of_length_le (by rw [rowN_length]; omega)
      rw [ht]
      simp -implicitDefEqProofs (maxSteps := 4000000) only [go_sem, go_sem_proc, ↓reduceIte, Nat.min_def, hlt']
end Go.Proofs.Ytfgbklmmildakaa.D
