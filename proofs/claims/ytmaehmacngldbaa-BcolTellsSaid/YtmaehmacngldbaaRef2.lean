/- The document's own columns: numbers as bytes that have their order; a value told. -/
import Derived.Test.YtmaehmacngldbaaRef1
import Derived.Test.YtmaehmacngldbaaDenQ
namespace Go.Proofs.Ytmaehmacngldbaa.D
open Go Go.Den
set_option linter.unusedSimpArgs false
set_option linter.unusedVariables false
set_option maxRecDepth 20000
set_option maxHeartbeats 8000000
def IsInts (X : PV) (l : List Int) : Prop := X = .sl 1 (ints .i64 l) ∨ (X = .nils ∧ l = [])
theorem zig_r' {x : Int} (h : -9223372036854775808 ≤ x ∧ x < 9223372036854775808) : 0 ≤ zig x ∧ zig x < 18446744073709551616 := ⟨zig_lo x, zig_hi h.1 h.2⟩
theorem xor_top {n : Nat} (h : n < 2 ^ 63) : n ^^^ 2 ^ 63 = 2 ^ 63 + n := by
  refine Nat.eq_of_testBit_eq fun i => ?_
  rw [Nat.testBit_xor, Nat.testBit_two_pow]
  by_cases hi : i = 63
  · subst hi
    rw [Nat.testBit_two_pow_add_eq, Nat.testBit_lt_two_pow h]; rfl
  · have e : decide (63 = i) = false := decide_eq_false (fun h => hi h.symm)
    rw [e, Bool.xor_false]
    by_cases hlt : i < 63
    · rw [Nat.testBit_two_pow_add_gt hlt]
    · have h1 : n < 2 ^ i := Nat.lt_of_lt_of_le h (Nat.pow_le_pow_right (by decide) (by omega))
      have h2 : 2 ^ 63 + n < 2 ^ i := by
        have : 2 ^ 64 ≤ 2 ^ i := Nat.pow_le_pow_right (by decide) (by omega)
        omega
      rw [Nat.testBit_lt_two_pow h1, Nat.testBit_lt_two_pow h2]
theorem bxor_top {a : Int} (h0 : 0 ≤ a) (h1 : a < 18446744073709551616) : bxor 64 a 9223372036854775808 = if a < 9223372036854775808 then a + 9223372036854775808 else a - 9223372036854775808 := by
  obtain ⟨n, rfl⟩ := Int.eq_ofNat_of_zero_le h0
  unfold bxor
  rw [BitVec.toNat_xor]
  have e1 : (BitVec.ofInt 64 (n : Int)).toNat = n := by rw [BitVec.toNat_ofInt]; omega
  have e2 : (BitVec.ofInt 64 9223372036854775808).toNat = 2 ^ 63 := by decide
  rw [e1, e2]
  by_cases h : n < 2 ^ 63
  · rw [xor_top h, if_pos (by omega)]; omega
  · obtain ⟨m, rfl⟩ : ∃ m, n = 2 ^ 63 + m := ⟨n - 2 ^ 63, by omega⟩
    rw [← xor_top (by omega : m < 2 ^ 63), Nat.xor_assoc, Nat.xor_self, Nat.xor_zero, xor_top (by omega : m < 2 ^ 63), if_neg (by omega)]
    omega
theorem bor_lo {u c : Int} (h0 : 0 ≤ c) (h1 : c < 256) : bor 64 (u * 256 % 18446744073709551616) c = u * 256 % 18446744073709551616 + c := by
  obtain ⟨y, hy, hy2⟩ : ∃ y : Nat, u * 256 % 18446744073709551616 = ((2 ^ 8 * y : Nat) : Int) ∧ 2 ^ 8 * y + 255 < 18446744073709551616 := ⟨((u * 256 % 18446744073709551616) / 256).toNat, by omega, by omega⟩
  obtain ⟨k, rfl⟩ := Int.eq_ofNat_of_zero_le h0
  have := bor_add (a := y) (b := k) 8 (by omega) (by omega)
  rw [hy]
  unfold bor at this ⊢
  rw [BitVec.or_comm, this]
  push_cast
  omega
theorem texts_sl {l : List Int} (hr : Ri64 l) (hl : l.length ≤ 1000000) : dw E 54 [.sl 1 (ints .i64 l)] [] = some (.nr 28 1 ((l.map fun x => some (tx x)).map brow), []) := by
  refine dw_in (fn := Try.f54) rfl body54 (by simp) ?_
  simp -implicitDefEqProofs (maxSteps := 4000000) (disch := omega) only [go_sem, go_sem_proc, dr, Nat.min_def, ↓reduceIte]
  refine runs_for (fun i : Nat => (⟨[(0, .sl 1 (ints .i64 l)), (3, .h 2097344), (4, .int .i64 i)], [(2097344, some ⟨true, .row 28 1 (((l.take i).map fun x => some (tx x)).map brow)⟩)], 1⟩ : St)) l.length ?_ ?_ ?_
  · simp -implicitDefEqProofs (maxSteps := 4000000) (disch := omega) only [go_sem, go_sem_proc, dr, Nat.min_def, ↓reduceIte, List.take_zero, List.map_nil]
  · intro i hi
    obtain ⟨x, hx, hm, ht⟩ := take_get hi
    have hxr := hr x hm
    have hlt : ((l.take i).map fun x => some (tx x)).length ≤ 1000000 := by simp; omega
    have e0 : bxor 64 (x % 18446744073709551616) 9223372036854775808 = x + 9223372036854775808 := by
      rw [bxor_top (by omega) (by omega)]; split <;> omega
    rw [ht, List.map_append, List.map_append]
    have e1 : ([x].map fun x => some (tx x)).map brow = [[.sl 1 (ints .u8 (txU (x + 9223372036854775808)))]] := rfl
    rw [e1]
    have hbl : (((l.take i).map fun x => some (tx x)).map brow).length ≤ 1000000 := by simp; omega
    generalize ((l.take i).map fun x => some (tx x)).map brow = out at *
    obtain ⟨u, hu, hu0, hu1⟩ : ∃ u, x + 9223372036854775808 = u ∧ 0 ≤ u ∧ u < 18446744073709551616 := ⟨_, rfl, by omega, by omega⟩
    rw [hu] at e0 ⊢
    clear ht hlt hr hu
    simp -implicitDefEqProofs (maxSteps := 4000000) (disch := omega) only [go_sem, go_sem_proc, dr, Nat.min_def, ↓reduceIte, hx, e0]
    refine runs_for (fun j : Nat => (⟨[(0, .sl 1 (ints .i64 l)), (3, .h 2097344), (4, .int .i64 i), (5, .int .u64 u), (6, .h 2097536), (7, .int .i64 (7 - (j : Int)))], [(2097344, some ⟨true, .row 28 1 out⟩), (2097536, some ⟨true, .row 5 1 (ints .u8 ((txU u).take j))⟩)], 1⟩ : St)) 8 ?_ ?_ ?_
    · simp -implicitDefEqProofs (maxSteps := 4000000) (disch := omega) only [go_sem, go_sem_proc, dr, Nat.min_def, ↓reduceIte, List.take_zero]
      rfl
    · intro j hj
      obtain rfl | rfl | rfl | rfl | rfl | rfl | rfl | rfl : j = 0 ∨ j = 1 ∨ j = 2 ∨ j = 3 ∨ j = 4 ∨ j = 5 ∨ j = 6 ∨ j = 7 := by omega
      all_goals simp only [txU, List.take_succ_cons, List.take_zero, Nat.reduceAdd]
      all_goals simp -implicitDefEqProofs (maxSteps := 4000000) (disch := omega) only [go_sem, go_sem_proc, dr, Nat.min_def, ↓reduceIte, Int.ediv_one]
    · have e8 : (txU u).take 8 = txU u := rfl
      rw [e8]
      simp -implicitDefEqProofs (maxSteps := 4000000) (disch := omega) only [go_sem, go_sem_proc, dr, Nat.min_def, ↓reduceIte]
  · simp -implicitDefEqProofs (maxSteps := 4000000) (disch := omega) only [go_sem, go_sem_proc, dr, Nat.min_def, ↓reduceIte, List.take_length]
theorem texts_spec {X : PV} {l : List Int} (hX : IsInts X l) (hr : Ri64 l) (hl : l.length ≤ 1000000) : dw E 54 [X] [] = some (.nr 28 1 ((l.map fun x => some (tx x)).map brow), []) := by
  rcases hX with rfl | ⟨rfl, rfl⟩
  · exact texts_sl hr hl
  · refine dw_in (fn := Try.f54) rfl body54 (by simp) ?_
    simp -implicitDefEqProofs (maxSteps := 4000000) (disch := omega) only [go_sem, go_sem_proc, dr, Nat.min_def, ↓reduceIte]
    refine runs_for (fun i : Nat => (⟨[(0, .nils), (3, .h 2097344), (4, .int .i64 i)], [(2097344, some ⟨true, .row 28 1 []⟩)], 1⟩ : St)) 0 ?_ (fun i h => absurd h (Nat.not_lt_zero i)) ?_
    · simp -implicitDefEqProofs (maxSteps := 4000000) (disch := omega) only [go_sem, go_sem_proc, dr, Nat.min_def, ↓reduceIte]
    · simp -implicitDefEqProofs (maxSteps := 4000000) (disch := omega) only [go_sem, go_sem_proc, dr, Nat.min_def, ↓reduceIte, List.map_nil]
theorem number64_spec {o : RB'} (h : R8 (bz o)) (hl : (bz o).length ≤ 1000000) : dw E 45 [bl o] [] = some (.int .i64 (n64 (bz o)), []) := by
  have hend : ∀ u : Int, 0 ≤ u → u < 18446744073709551616 → (bxor 64 u 9223372036854775808 + 9223372036854775808) % 18446744073709551616 - 9223372036854775808 = u - 9223372036854775808 := by
    intro u h0 h1
    rw [bxor_top h0 h1]; split <;> omega
  cases o with
  | none =>
    refine dw_in (fn := Try.f45) rfl body45 (by simp) ?_
    simp -implicitDefEqProofs (maxSteps := 4000000) (disch := omega) only [go_sem, go_sem_proc, dr, Nat.min_def, ↓reduceIte, bl]
    refine runs_for (fun i : Nat => (⟨[(0, .nils), (3, .int .u64 0), (4, .int .i64 i)], [], 1⟩ : St)) 0 ?_ (fun i h => absurd h (Nat.not_lt_zero i)) ?_
    · simp -implicitDefEqProofs (maxSteps := 4000000) (disch := omega) only [go_sem, go_sem_proc, dr, Nat.min_def, ↓reduceIte]
    · have e := hend 0 (by decide) (by decide)
      have e2 : n64 [] = -9223372036854775808 := rfl
      rw [e2]
      simp -implicitDefEqProofs (maxSteps := 4000000) (disch := omega) only [go_sem, go_sem_proc, dr, Nat.min_def, ↓reduceIte, e]
  | some zs =>
    rw [bz_some] at *
    refine dw_in (fn := Try.f45) rfl body45 (by simp) ?_
    simp -implicitDefEqProofs (maxSteps := 4000000) (disch := omega) only [go_sem, go_sem_proc, dr, Nat.min_def, ↓reduceIte, bl]
    refine runs_for (fun i : Nat => (⟨[(0, .sl 1 (ints .u8 zs)), (3, .int .u64 (u64f (zs.take i))), (4, .int .i64 i)], [], 1⟩ : St)) zs.length ?_ ?_ ?_
    · simp -implicitDefEqProofs (maxSteps := 4000000) (disch := omega) only [go_sem, go_sem_proc, dr, Nat.min_def, ↓reduceIte, List.take_zero]
      rfl
    · intro i hi
      obtain ⟨c, hc, hm, ht⟩ := take_get hi
      have hcr := h c hm
      have e : u64f (zs.take (i + 1)) = u64f (zs.take i) * 256 % 18446744073709551616 + c := by rw [ht, u64f, List.foldl_append]; rfl
      have e2 := bor_lo (u := u64f (zs.take i)) hcr.1 hcr.2
      rw [e]
      generalize u64f (zs.take i) = u at *
      clear ht h e
      simp -implicitDefEqProofs (maxSteps := 4000000) (disch := omega) only [go_sem, go_sem_proc, dr, Nat.min_def, ↓reduceIte, hc, e2]
    · rw [List.take_length]
      have hr := u64f_r h
      have e := hend _ hr.1 hr.2
      have e2 : n64 zs = u64f zs - 9223372036854775808 := rfl
      rw [e2]
      generalize u64f zs = u at *
      clear h hend
      simp -implicitDefEqProofs (maxSteps := 4000000) (disch := omega) only [go_sem, go_sem_proc, dr, Nat.min_def, ↓reduceIte, e]
theorem RefBytes_spec {zs : List Int} {o : RB'} (hl : zs.length ≤ 100000000) (ho : (bz o).length ≤ 1000000) : dw E 69 [.sl 1 (ints .u8 zs), bl o] [] = some (.nr 5 1 (ints .u8 (zs ++ (num ((bz o).length : Int) ++ bz o))), []) := by
  have hN := RefNum_sl (zs := zs) (u := ((bz o).length : Int)) (by omega) (by omega) (by omega)
  have hn := num_len10 (u := ((bz o).length : Int)) (by omega) (by omega)
  have hy : (zs ++ num ((bz o).length : Int)).length ≤ 100000010 := by rw [List.length_append]; omega
  rw [← List.append_assoc]
  generalize hq : num ((bz o).length : Int) = q at *
  generalize zs ++ q = y at *
  cases o with
  | none =>
    rw [bz_none] at *
    simp only [List.length_nil, Int.natCast_zero] at hN
    refine dw_in (fn := Try.f69) rfl body69 (by simp) ?_
    simp -implicitDefEqProofs (maxSteps := 4000000) (disch := omega) only [go_sem, go_sem_proc, dr, Nat.min_def, ↓reduceIte, bl, hN, List.append_nil]
  | some x =>
    rw [bz_some] at *
    obtain ⟨L, hL⟩ : ∃ L : Int, (x.length : Int) = L := ⟨_, rfl⟩
    rw [hL] at hN
    refine dw_in (fn := Try.f69) rfl body69 (by simp) ?_
    simp -implicitDefEqProofs (maxSteps := 4000000) (disch := omega) only [go_sem, go_sem_proc, dr, Nat.min_def, ↓reduceIte, bl, hL, hN]
theorem toldO_len {nums : Bool} {o : RB'} (h : R8 (bz o)) (hl : (bz o).length ≤ 1000000) : (toldO nums o).length ≤ 1000010 ∧ R8 (toldO nums o) := by
  have h1 := n64_r h
  have h2 := zig_r' h1
  have h3 := num_len10 h2.1 h2.2
  have h4 := num_len10 (u := ((bz o).length : Int)) (by omega) (by omega)
  unfold toldO
  cases nums
  · rw [if_neg (by decide)]
    exact ⟨by rw [List.length_append]; omega, (num_r8 (by omega) (by omega)).append h⟩
  · rw [if_pos rfl]
    exact ⟨by omega, num_r8 h2.1 h2.2⟩
theorem told_spec {zs : List Int} {o : RB'} {nums : Bool} (hl : zs.length ≤ 100000000) (h : R8 (bz o)) (ho : (bz o).length ≤ 1000000) : dw E 43 [.sl 1 (ints .u8 zs), bl o, .bool nums] [] = some (.nr 5 1 (ints .u8 (zs ++ toldO nums o)), []) := by
  have h1 := n64_r h
  have hZ := RefZig_spec h1.1 h1.2
  have h2 := zig_r' h1
  have hN := RefNum_sl (zs := zs) (u := zig (n64 (bz o))) (by omega) h2.1 h2.2
  have h6 := number64_spec h ho
  have hB := RefBytes_spec (o := o) hl ho
  unfold toldO
  cases nums
  · rw [if_neg (by decide)]
    generalize zs ++ (num ((bz o).length : Int) ++ bz o) = Y at *
    cases o <;> simp only [bl] at hB h6 ⊢ <;> (refine dw_in (fn := Try.f43) rfl body43 (by simp) ?_) <;> simp -implicitDefEqProofs (maxSteps := 4000000) (disch := omega) only [go_sem, go_sem_proc, dr, Nat.min_def, ↓reduceIte, hB]
  · rw [if_pos rfl]
    generalize zs ++ num (zig (n64 (bz o))) = Y at *
    generalize n64 (bz o) = n at *
    cases o <;> simp only [bl] at hB h6 ⊢ <;> (refine dw_in (fn := Try.f43) rfl body43 (by simp) ?_) <;> simp -implicitDefEqProofs (maxSteps := 4000000) (disch := omega) only [go_sem, go_sem_proc, dr, Nat.min_def, ↓reduceIte, h6, hZ, hN]
end Go.Proofs.Ytmaehmacngldbaa.D
