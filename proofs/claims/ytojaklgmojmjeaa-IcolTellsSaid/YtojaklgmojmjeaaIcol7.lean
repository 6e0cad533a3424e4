/- Columns of numbers: frames and lists, read; a column decoded; one of its numbers. -/
import Derived.Test.YtojaklgmojmjeaaIcol6
namespace Go.Proofs.Ytojaklgmojmjeaa.D
open Go Go.Den
set_option linter.unusedSimpArgs false
set_option linter.unusedVariables false
set_option maxRecDepth 20000
set_option maxHeartbeats 8000000
/-- a row of the call's own, or nil -/
def IsO (X : PV) (l : List Int) : Prop := X = .nr 2 1 (ints .i64 l) ∨ (X = .nils ∧ l = [])
theorem w64_r (x : Int) : -9223372036854775808 ≤ w64 x ∧ w64 x < 9223372036854775808 := by unfold w64; omega
theorem unfL_good {n : Nat} {s : Option (List Int)} : Ri64 (unfL n s) := by
  unfold unfL
  split
  · intro z hz; simp at hz
  · split
    · intro z hz; simp at hz
    · split
      · intro z hz; simp at hz
      · intro z hz
        obtain ⟨u, _, rfl⟩ := List.mem_map.1 hz
        exact w64_r _
theorem Rest_r {s : Option (List Int)} (h : GoodR s) : dw E 36 [.pb 16777216 0] [rbx s] = some (.nr 5 1 (ints .u8 (restL s)), [rbx s]) := by
  cases s with
  | none => exact Rest_nils
  | some zs => exact Rest_sl (by have := h.2; omega)
theorem restL_good {s : Option (List Int)} (h : GoodR s) : R8 (restL s) ∧ (restL s).length ≤ 1000000000 := by
  cases s with
  | none => exact ⟨fun z hz => by simp [restL] at hz, by simp [restL]⟩
  | some r => exact h
theorem unpack_r {n c : Int} {zs w : List Int} (h : unpack n zs c = some w) : w.length = c.toNat ∧ 0 ≤ c ∧ c ≤ 65535 ∧ R64 w := by
  unfold unpack at h
  split at h
  · cases h
  · rename_i hc
    split at h
    · injection h with h
      subst h
      exact ⟨unpL_length _ _ _, by omega, by omega, unpL_R64 (heldN_le n) zs _⟩
    · cases h
theorem fold64 (z u : Int) : (z % 18446744073709551616 + u) % 18446744073709551616 = (z + u) % 18446744073709551616 := by omega
theorem unframe_spec {s : Option (List Int)} {n : Nat} (h : GoodR s) (hn : n ≤ 65535) : ∃ X s', dw E 21 [.pb 16777216 0, .int .i64 n] [rbx s] = some (X, [rbx s']) ∧ IsO X (unfL n s) ∧ (unfL n s).length ≤ 65535 := by
  by_cases h0 : n = 0
  · subst h0
    refine ⟨.nils, s, ?_, .inr ⟨rfl, by simp [unfL]⟩, by simp [unfL]⟩
    cases s <;> (refine dw_in (fn := Try.f21) rfl body21 (by simp) ?_) <;> simp -implicitDefEqProofs (maxSteps := 4000000) (disch := omega) only [go_sem, go_sem_proc, dr, Nat.min_def, ↓reduceIte, rbx]
  have hN := RNum_r h
  obtain ⟨g1, g2, g3⟩ := rnum_good h
  have hZ := Zag_spec g2 g3
  have hR := Rest_r g1
  obtain ⟨r8, rl⟩ := restL_good g1
  have hu : unfL n s = match restL (rnum s).2 with | [] => [] | w :: r => if 64 < w then [] else ((unpack w r n).getD []).map fun u => w64 (zag (rnum s).1 + u) := by unfold unfL; rw [if_neg h0]; rfl
  rw [hu]; clear hu h g1
  generalize rnum s = p at *
  obtain ⟨v, s'⟩ := p
  dsimp only at *
  have h0' : ((n : Int) = 0) = False := eq_false (by omega)
  have hzr : -9223372036854775808 ≤ zag v ∧ zag v < 9223372036854775808 := by unfold zag; split <;> omega
  generalize zag v = z at *
  cases hq : restL s' with
  | nil =>
    refine ⟨.nils, s', ?_, .inr ⟨rfl, rfl⟩, by simp⟩
    rw [hq] at hR
    clear r8 rl hq
    cases s <;> cases s' <;> simp only [rbx] at hN hR ⊢ <;> (refine dw_in (fn := Try.f21) rfl body21 (by simp) ?_) <;> simp -implicitDefEqProofs (maxSteps := 4000000) (disch := omega) only [go_sem, go_sem_proc, dr, Nat.min_def, ↓reduceIte, h0', hN, hZ, hR, List.length_nil]
  | cons w r =>
    rw [hq] at hR r8 rl
    have hw := r8 w (by simp)
    simp only [List.length_cons] at rl
    dsimp only
    by_cases hw64 : 64 < w
    · refine ⟨.nils, s', ?_, .inr ⟨rfl, by rw [if_pos hw64]⟩, by simp [hw64]⟩
      clear r8 hq
      cases s <;> cases s' <;> simp only [rbx] at hN hR ⊢ <;> (refine dw_in (fn := Try.f21) rfl body21 (by simp) ?_) <;> simp -implicitDefEqProofs (maxSteps := 4000000) (disch := omega) only [go_sem, go_sem_proc, dr, Nat.min_def, ↓reduceIte, h0', hN, hZ, hR, List.length_cons, List.getElem?_cons_zero]
    · rw [if_neg hw64]
      have hU := Unpack_spec (zs := r) (n := w) (c := n) (fun z hz => r8 z (by simp [hz])) (by omega)
      cases s' with
      | none =>
        simp only [rbx] at hN hR ⊢
        cases hun : unpack w r n with
        | none =>
          rw [hun] at hU
          refine ⟨.nr 2 1 (ints .i64 []), none, ?_, .inl rfl, by simp⟩
          clear r8 hq hun
          simp only [resU, rbx] at hU ⊢
          cases s <;> simp only [rbx] at hN ⊢ <;> (refine dw_in (fn := Try.f21) rfl body21 (by simp) ?_) <;> simp -implicitDefEqProofs (maxSteps := 4000000) (disch := omega) only [go_sem, go_sem_proc, dr, Nat.min_def, ↓reduceIte, h0', hN, hZ, hR, hU, List.length_cons, List.getElem?_cons_zero, List.drop_succ_cons, List.drop_zero]
          all_goals refine ⟨by ((repeat' split) <;> (change _ = true; kernel_rfl)), ?_⟩
          all_goals refine runs_for (fun i : Nat => (⟨[(5, .int .u64 (z % 18446744073709551616)), (9, .h 2097728), (40, .nils), (41, .int .i64 0), (42, .int .i64 i)], [(2097728, some ⟨true, .row 2 1 []⟩), (16777216, some ⟨true, .box [.nils, .bool true]⟩)], 1⟩ : St)) 0 ?_ (fun i h => absurd h (Nat.not_lt_zero i)) ?_
          all_goals simp -implicitDefEqProofs (maxSteps := 4000000) (disch := omega) only [go_sem, go_sem_proc, dr, Nat.min_def, ↓reduceIte, ints, List.map_nil]
        | some far =>
          obtain ⟨f1, f2, f3, f4⟩ := unpack_r hun
          rw [hun] at hU
          refine ⟨.nr 2 1 (ints .i64 (far.map fun u => w64 (z + u))), none, ?_, .inl rfl, by simp; omega⟩
          clear r8 hq hun
          simp only [resU, rbx] at hU ⊢
          obtain ⟨L, hL⟩ : ∃ L : Int, (far.length : Int) = L := ⟨_, rfl⟩
          have hLr : 0 ≤ L ∧ L ≤ 65535 := by omega
          cases s <;> simp only [rbx] at hN ⊢ <;> (refine dw_in (fn := Try.f21) rfl body21 (by simp) ?_) <;> simp -implicitDefEqProofs (maxSteps := 4000000) (disch := omega) only [go_sem, go_sem_proc, dr, Nat.min_def, ↓reduceIte, h0', hN, hZ, hR, hU, hL, List.length_cons, List.getElem?_cons_zero, List.drop_succ_cons, List.drop_zero]
          all_goals refine ⟨by ((repeat' split) <;> (change _ = true; kernel_rfl)), ?_⟩
          all_goals refine runs_for (fun i : Nat => (⟨[(5, .int .u64 (z % 18446744073709551616)), (9, .h 2097728), (40, .h 2099712), (41, .int .i64 L), (42, .int .i64 i)], [(2097728, some ⟨true, .row 2 1 (ints .i64 ((far.take i).map fun u => w64 (z + u)))⟩), (2099712, some ⟨true, .row 59 1 (ints .u64 far)⟩), (16777216, some ⟨true, .box [.nils, .bool true]⟩)], 1⟩ : St)) far.length ?_ ?_ ?_
          case refine_1 | refine_1 =>
            simp -implicitDefEqProofs (maxSteps := 4000000) (disch := omega) only [go_sem, go_sem_proc, dr, Nat.min_def, ↓reduceIte, ints, List.map_nil, List.take_zero]
          case refine_2 | refine_2 =>
            intro i hi
            obtain ⟨x, hx, hm, ht⟩ := take_get hi
            have hxr := f4 x hm
            have hlt : (far.take i).length ≤ 65535 := by simp; omega
            have hiL : (i : Int) < L := by omega
            have hc : ((z % 18446744073709551616 + x) % 18446744073709551616 + 9223372036854775808) % 18446744073709551616 - 9223372036854775808 = w64 (z + x) := by unfold w64; omega
            clear hN hR hU hZ f4 rl f1 f2 f3
            simp -implicitDefEqProofs (maxSteps := 4000000) (disch := omega) only [go_sem, go_sem_proc, dr, Nat.min_def, ↓reduceIte, hx, hc, hL, List.length_map]
            rw [ht, List.map_append, List.map_cons, List.map_nil]
          case refine_3 | refine_3 =>
            clear hN hR hU hZ f4
            simp -implicitDefEqProofs (maxSteps := 4000000) (disch := omega) only [go_sem, go_sem_proc, dr, Nat.min_def, ↓reduceIte, List.take_length]
      | some z1 =>
        simp only [rbx] at hN hR ⊢
        cases hun : unpack w r n with
        | none =>
          rw [hun] at hU
          refine ⟨.nr 2 1 (ints .i64 []), some z1, ?_, .inl rfl, by simp⟩
          clear r8 hq hun
          simp only [resU, rbx] at hU ⊢
          cases s <;> simp only [rbx] at hN ⊢ <;> (refine dw_in (fn := Try.f21) rfl body21 (by simp) ?_) <;> simp -implicitDefEqProofs (maxSteps := 4000000) (disch := omega) only [go_sem, go_sem_proc, dr, Nat.min_def, ↓reduceIte, h0', hN, hZ, hR, hU, List.length_cons, List.getElem?_cons_zero, List.drop_succ_cons, List.drop_zero]
          all_goals refine ⟨by ((repeat' split) <;> (change _ = true; kernel_rfl)), ?_⟩
          all_goals refine runs_for (fun i : Nat => (⟨[(5, .int .u64 (z % 18446744073709551616)), (9, .h 2097728), (40, .nils), (41, .int .i64 0), (42, .int .i64 i)], [(2097728, some ⟨true, .row 2 1 []⟩), (16777216, some ⟨true, .box [.sl 1 (ints .u8 z1), .bool false]⟩)], 1⟩ : St)) 0 ?_ (fun i h => absurd h (Nat.not_lt_zero i)) ?_
          all_goals simp -implicitDefEqProofs (maxSteps := 4000000) (disch := omega) only [go_sem, go_sem_proc, dr, Nat.min_def, ↓reduceIte, ints, List.map_nil]
        | some far =>
          obtain ⟨f1, f2, f3, f4⟩ := unpack_r hun
          rw [hun] at hU
          refine ⟨.nr 2 1 (ints .i64 (far.map fun u => w64 (z + u))), some z1, ?_, .inl rfl, by simp; omega⟩
          clear r8 hq hun
          simp only [resU, rbx] at hU ⊢
          obtain ⟨L, hL⟩ : ∃ L : Int, (far.length : Int) = L := ⟨_, rfl⟩
          have hLr : 0 ≤ L ∧ L ≤ 65535 := by omega
          cases s <;> simp only [rbx] at hN ⊢ <;> (refine dw_in (fn := Try.f21) rfl body21 (by simp) ?_) <;> simp -implicitDefEqProofs (maxSteps := 4000000) (disch := omega) only [go_sem, go_sem_proc, dr, Nat.min_def, ↓reduceIte, h0', hN, hZ, hR, hU, hL, List.length_cons, List.getElem?_cons_zero, List.drop_succ_cons, List.drop_zero]
          all_goals refine ⟨by ((repeat' split) <;> (change _ = true; kernel_rfl)), ?_⟩
          all_goals refine runs_for (fun i : Nat => (⟨[(5, .int .u64 (z % 18446744073709551616)), (9, .h 2097728), (40, .h 2099712), (41, .int .i64 L), (42, .int .i64 i)], [(2097728, some ⟨true, .row 2 1 (ints .i64 ((far.take i).map fun u => w64 (z + u)))⟩), (2099712, some ⟨true, .row 59 1 (ints .u64 far)⟩), (16777216, some ⟨true, .box [.sl 1 (ints .u8 z1), .bool false]⟩)], 1⟩ : St)) far.length ?_ ?_ ?_
          case refine_1 | refine_1 =>
            simp -implicitDefEqProofs (maxSteps := 4000000) (disch := omega) only [go_sem, go_sem_proc, dr, Nat.min_def, ↓reduceIte, ints, List.map_nil, List.take_zero]
          case refine_2 | refine_2 =>
            intro i hi
            obtain ⟨x, hx, hm, ht⟩ := take_get hi
            have hxr := f4 x hm
            have hlt : (far.take i).length ≤ 65535 := by simp; omega
            have hiL : (i : Int) < L := by omega
            have hc : ((z % 18446744073709551616 + x) % 18446744073709551616 + 9223372036854775808) % 18446744073709551616 - 9223372036854775808 = w64 (z + x) := by unfold w64; omega
            clear hN hR hU hZ f4 rl f1 f2 f3
            simp -implicitDefEqProofs (maxSteps := 4000000) (disch := omega) only [go_sem, go_sem_proc, dr, Nat.min_def, ↓reduceIte, hx, hc, hL, List.length_map]
            rw [ht, List.map_append, List.map_cons, List.map_nil]
          case refine_3 | refine_3 =>
            clear hN hR hU hZ f4
            simp -implicitDefEqProofs (maxSteps := 4000000) (disch := omega) only [go_sem, go_sem_proc, dr, Nat.min_def, ↓reduceIte, List.take_length]
end Go.Proofs.Ytojaklgmojmjeaa.D
