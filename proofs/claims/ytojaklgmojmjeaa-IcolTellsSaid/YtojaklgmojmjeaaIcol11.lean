/- Columns of numbers are read as they were told. -/
import Derived.Test.YtojaklgmojmjeaaIcol10
namespace Go.Proofs.Ytojaklgmojmjeaa.D
open Go Go.Den
set_option linter.unusedSimpArgs false
set_option linter.unusedVariables false
set_option maxRecDepth 20000
set_option maxHeartbeats 8000000
theorem tell_kind {k : Int} {l b : List Int} (h : tellL k l = some b) : ∃ z, b = k :: z := by
  unfold tellL at h
  split at h
  · cases h
  · split at h
    · injection h with h; exact ⟨_, h.symm⟩
    · cases h
theorem encL_best {l : List Int} (hl : l.length ≤ 65535) : ∃ k, 1 ≤ k ∧ k ≤ 4 ∧ tellL k l = some (encL l) ∧ ∀ k' b', tellL k' l = some b' → (encL l).length ≤ b'.length ∧ (b'.length = (encL l).length → k ≤ k') := by
  have h1 : tellL 1 l = some (1 :: zigs l) := by unfold tellL; rw [if_neg (by omega)]; rfl
  have h2 : tellL 2 l = some (2 :: runsL l) := by unfold tellL; rw [if_neg (by omega)]; rfl
  have h3 : tellL 3 l = some (3 :: frameL l) := by unfold tellL; rw [if_neg (by omega)]; rfl
  have h4 : tellL 4 l = some (4 :: dictL l) := by unfold tellL; rw [if_neg (by omega)]; rfl
  have hall : ∀ k' b', tellL k' l = some b' → (k' = 1 ∧ b' = 1 :: zigs l) ∨ (k' = 2 ∧ b' = 2 :: runsL l) ∨ (k' = 3 ∧ b' = 3 :: frameL l) ∨ (k' = 4 ∧ b' = 4 :: dictL l) := by
    intro k' b' h
    unfold tellL at h
    rw [if_neg (by omega)] at h
    unfold bodyL at h
    by_cases e1 : k' = 1
    · subst e1; exact .inl ⟨rfl, by injection h with h; exact h.symm⟩
    by_cases e2 : k' = 2
    · subst e2; exact .inr (.inl ⟨rfl, by injection h with h; exact h.symm⟩)
    by_cases e3 : k' = 3
    · subst e3; exact .inr (.inr (.inl ⟨rfl, by injection h with h; exact h.symm⟩))
    by_cases e4 : k' = 4
    · subst e4; exact .inr (.inr (.inr ⟨rfl, by injection h with h; exact h.symm⟩))
    · rw [if_neg e1, if_neg e2, if_neg e3, if_neg e4] at h
      cases h
  unfold encL
  rw [if_neg (by omega)]
  generalize (1 :: zigs l : List Int) = c1 at *
  generalize (2 :: runsL l : List Int) = c2 at *
  generalize (3 :: frameL l : List Int) = c3 at *
  generalize (4 :: dictL l : List Int) = c4 at *
  rcases pick_cases c1 c2 with ⟨e1, a1⟩ | ⟨e1, a1⟩ <;> rw [e1]
  · rcases pick_cases c2 c3 with ⟨e2, a2⟩ | ⟨e2, a2⟩ <;> rw [e2]
    · rcases pick_cases c3 c4 with ⟨e3, a3⟩ | ⟨e3, a3⟩ <;> rw [e3]
      · exact ⟨4, by omega, by omega, h4, fun k' b' h => by rcases hall k' b' h with ⟨rfl, rfl⟩ | ⟨rfl, rfl⟩ | ⟨rfl, rfl⟩ | ⟨rfl, rfl⟩ <;> exact ⟨by omega, fun _ => by omega⟩⟩
      · exact ⟨3, by omega, by omega, h3, fun k' b' h => by rcases hall k' b' h with ⟨rfl, rfl⟩ | ⟨rfl, rfl⟩ | ⟨rfl, rfl⟩ | ⟨rfl, rfl⟩ <;> exact ⟨by omega, fun _ => by omega⟩⟩
    · rcases pick_cases c2 c4 with ⟨e3, a3⟩ | ⟨e3, a3⟩ <;> rw [e3]
      · exact ⟨4, by omega, by omega, h4, fun k' b' h => by rcases hall k' b' h with ⟨rfl, rfl⟩ | ⟨rfl, rfl⟩ | ⟨rfl, rfl⟩ | ⟨rfl, rfl⟩ <;> exact ⟨by omega, fun _ => by omega⟩⟩
      · exact ⟨2, by omega, by omega, h2, fun k' b' h => by rcases hall k' b' h with ⟨rfl, rfl⟩ | ⟨rfl, rfl⟩ | ⟨rfl, rfl⟩ | ⟨rfl, rfl⟩ <;> exact ⟨by omega, fun _ => by omega⟩⟩
  · rcases pick_cases c1 c3 with ⟨e2, a2⟩ | ⟨e2, a2⟩ <;> rw [e2]
    · rcases pick_cases c3 c4 with ⟨e3, a3⟩ | ⟨e3, a3⟩ <;> rw [e3]
      · exact ⟨4, by omega, by omega, h4, fun k' b' h => by rcases hall k' b' h with ⟨rfl, rfl⟩ | ⟨rfl, rfl⟩ | ⟨rfl, rfl⟩ | ⟨rfl, rfl⟩ <;> exact ⟨by omega, fun _ => by omega⟩⟩
      · exact ⟨3, by omega, by omega, h3, fun k' b' h => by rcases hall k' b' h with ⟨rfl, rfl⟩ | ⟨rfl, rfl⟩ | ⟨rfl, rfl⟩ | ⟨rfl, rfl⟩ <;> exact ⟨by omega, fun _ => by omega⟩⟩
    · rcases pick_cases c1 c4 with ⟨e3, a3⟩ | ⟨e3, a3⟩ <;> rw [e3]
      · exact ⟨4, by omega, by omega, h4, fun k' b' h => by rcases hall k' b' h with ⟨rfl, rfl⟩ | ⟨rfl, rfl⟩ | ⟨rfl, rfl⟩ | ⟨rfl, rfl⟩ <;> exact ⟨by omega, fun _ => by omega⟩⟩
      · exact ⟨1, by omega, by omega, h1, fun k' b' h => by rcases hall k' b' h with ⟨rfl, rfl⟩ | ⟨rfl, rfl⟩ | ⟨rfl, rfl⟩ | ⟨rfl, rfl⟩ <;> exact ⟨by omega, fun _ => by omega⟩⟩
theorem tell_facts {k : Int} {l b : List Int} (h : Ri64 l) (hl : l.length ≤ 65535) (hb : tellL k l = some b) : R8 b ∧ 1 ≤ b.length ∧ b.length ≤ 3000001 := by
  unfold tellL at hb
  rw [if_neg (by omega)] at hb
  split at hb
  · rename_i z hz
    injection hb with hb
    subst hb
    obtain ⟨b1, b2, b3, b4⟩ := body_len h hl hz
    refine ⟨fun y hy => ?_, by simp, by simp; omega⟩
    rcases List.mem_cons.1 hy with rfl | hy
    · omega
    · exact b2 y hy
  · cases hb
theorem tell_some {k : Int} {l : List Int} (hl : l.length ≤ 65535) (h1 : 1 ≤ k) (h2 : k ≤ 4) : ∃ b, tellL k l = some b := by
  have : k = 1 ∨ k = 2 ∨ k = 3 ∨ k = 4 := by omega
  unfold tellL
  rw [if_neg (by omega)]
  rcases this with rfl | rfl | rfl | rfl <;> exact ⟨_, rfl⟩
/-- what was told in a kind is decoded -/
theorem round_trip {k : Int} {l b : List Int} (h : Ri64 l) (hl : l.length ≤ 65535) (hb : tellL k l = some b) : ∃ X, IsO X l ∧ dw E 8 [.sl 1 (ints .u8 b), .int .i64 l.length] [] = some (.tup [X, .bool true], []) := by
  obtain ⟨f1, f2, f3⟩ := tell_facts h hl hb
  obtain ⟨Y, hY, hD⟩ := Decode_any (b := b) (c := l.length) f1 (by omega)
  rw [decL_tell h hb] at hD
  obtain ⟨X, hX, rfl⟩ := hD
  exact ⟨X, hX, hY⟩
theorem IcolBack_spec {l : List Int} {how : Int} (hr : Ri64 l) : dw E 7 [.sl 1 (ints .i64 l), .int .i64 how] [] = some (.bool true, []) := by
  have hCo := Column_spec (how := how) hr
  have hx := colL_r how hr (m := min l.length 60) (by omega)
  have hxl := colL_len how l (min l.length 60)
  have hxl' : (colL how l (min l.length 60)).length ≤ 60 := by omega
  clear hxl
  generalize colL how l (min l.length 60) = x at *
  have hE := Encode_sl hx (by omega)
  obtain ⟨k, k1, k2, hk, hbest⟩ := encL_best (l := x) (by omega)
  obtain ⟨f1, f2, f3⟩ := tell_facts hx (by omega) hk
  obtain ⟨z, hz⟩ := tell_kind hk
  obtain ⟨X, hX, hD⟩ := round_trip hx (by omega) hk
  obtain ⟨L, hL⟩ : ∃ L : Int, (x.length : Int) = L := ⟨_, rfl⟩
  have hL0 : 0 ≤ L ∧ L ≤ 60 := by omega
  have hAt : ∀ i : Nat, i < x.length → dw E 9 [.sl 1 (ints .u8 (encL x)), .int .i64 L, .int .i64 i] [] = some (atR x[i]?, []) := by
    intro i hi
    rw [At_any f1 (by omega), atL, ← hL, decL_tell hx hk]
    simp only [Int.toNat_natCast]
    rw [if_neg (by omega)]
  have hR4 : ∀ k' : Int, 1 ≤ k' → k' ≤ 4 → ∃ c X, IsO X x ∧ dw E 12 [.int .i64 k', .sl 1 (ints .i64 x)] [] = some (.tup [.nr 5 1 (ints .u8 (k' :: c)), .bool true], []) ∧
      dw E 8 [.sl 1 (ints .u8 (k' :: c)), .int .i64 L] [] = some (.tup [X, .bool true], []) ∧ (encL x).length ≤ c.length + 1 ∧ (c.length + 1 = (encL x).length → k ≤ k') ∧ c.length ≤ 3000001 := by
    intro k' h1 h4
    obtain ⟨b, hb⟩ := tell_some (l := x) (by omega) h1 h4
    obtain ⟨c, rfl⟩ := tell_kind hb
    obtain ⟨X', hX', hD'⟩ := round_trip hx (by omega) hb
    obtain ⟨b1, b2⟩ := hbest _ _ hb
    obtain ⟨t1, t2, t3⟩ := tell_facts hx (by omega) hb
    rw [hL] at hD'
    have hT := Tell_spec (k := k') (.inl rfl) hx (by omega)
    unfold tellR at hT
    rw [hb] at hT
    simp only [List.length_cons] at b1 b2 t3
    exact ⟨c, X', hX', hT, hD', b1, b2, by omega⟩
  rw [hL] at hD
  have hS := fun {Y : PV} (hY : IsI Y x) => SameInts_spec (.inl rfl) hY (a := x) (by omega) (by omega)
  simp only [decide_true] at hS
  have hSX : ∀ X : PV, IsO X x → (X = .nr 2 1 (ints .i64 x) ∧ dw E 13 [.sl 1 (ints .i64 x), .sl 1 (ints .i64 x)] [] = some (.bool true, [])) ∨ (X = .nils ∧ dw E 13 [.sl 1 (ints .i64 x), .nils] [] = some (.bool true, [])) := by
    rintro X (rfl | ⟨rfl, h0⟩)
    · exact .inl ⟨rfl, hS (.inl rfl)⟩
    · exact .inr ⟨rfl, hS (.inr ⟨rfl, h0⟩)⟩
  have hA := awake4
  have hzl := congrArg List.length hz
  simp only [List.length_cons] at hzl
  clear hbest hS f1 hk
  generalize encL x = B at *
  subst hz
  refine dw_in (fn := Try.f7) rfl body7 (by simp) ?_
  rcases hSX X hX with ⟨rfl, hSY⟩ | ⟨rfl, hSY⟩ <;> simp -implicitDefEqProofs (maxSteps := 4000000) (disch := omega) only [go_sem, go_sem_proc, dr, Nat.min_def, ↓reduceIte, hCo, hE, hL, hD, hSY]
  all_goals refine runs_for (fun i : Nat => (⟨[(5, .h 2097472), (6, .h 2097536), (38, .h 2099584), (39, .int .i64 4), (40, .int .i64 i)], [(2097472, some ⟨true, .row 2 1 (ints .i64 x)⟩), (2097536, some ⟨true, .row 5 1 (ints .u8 (k :: z))⟩), (2099584, some ⟨true, .row 3 1 (ints .i64 [1, 2, 3, 4])⟩)], 1⟩ : St)) 4 ?_ ?_ ?_
  case inl.refine_1 | inr.refine_1 => simp -implicitDefEqProofs (maxSteps := 4000000) (disch := omega) only [go_sem, go_sem_proc, dr, Nat.min_def, ↓reduceIte]
  case inl.refine_2 | inr.refine_2 =>
    clear hSY hD hX hCo hE
    intro i hi
    obtain rfl | rfl | rfl | rfl : i = 0 ∨ i = 1 ∨ i = 2 ∨ i = 3 := by omega
    · obtain ⟨c, X, hX, hT, hD, b1, b2, b3⟩ := hR4 1 (by decide) (by decide)
      simp only [List.length_cons] at b1 b2
      have b1 : z.length ≤ c.length := by omega
      have b2 : c.length = z.length → k ≤ 1 := fun h => b2 (by omega)
      clear hR4
      rcases Nat.lt_or_eq_of_le b1 with hcz | hcz
      · clear b2
        rcases hSX X hX with ⟨rfl, hSY⟩ | ⟨rfl, hSY⟩ <;> simp -implicitDefEqProofs (maxSteps := 4000000) (disch := omega) only [go_sem, go_sem_proc, dr, Nat.min_def, ↓reduceIte, hT, hD, hSY, hL, List.length_cons] <;> ((repeat' split) <;> (change _ = true; kernel_rfl))
      · have b2 := b2 hcz.symm
        have hcz : (c.length : Int) = (z.length : Int) := by omega
        rcases hSX X hX with ⟨rfl, hSY⟩ | ⟨rfl, hSY⟩ <;> simp -implicitDefEqProofs (maxSteps := 4000000) (disch := omega) only [go_sem, go_sem_proc, dr, Nat.min_def, ↓reduceIte, hT, hD, hSY, hL, hcz, List.length_cons] <;> ((repeat' split) <;> (change _ = true; kernel_rfl))
    · obtain ⟨c, X, hX, hT, hD, b1, b2, b3⟩ := hR4 2 (by decide) (by decide)
      simp only [List.length_cons] at b1 b2
      have b1 : z.length ≤ c.length := by omega
      have b2 : c.length = z.length → k ≤ 2 := fun h => b2 (by omega)
      clear hR4
      rcases Nat.lt_or_eq_of_le b1 with hcz | hcz
      · clear b2
        rcases hSX X hX with ⟨rfl, hSY⟩ | ⟨rfl, hSY⟩ <;> simp -implicitDefEqProofs (maxSteps := 4000000) (disch := omega) only [go_sem, go_sem_proc, dr, Nat.min_def, ↓reduceIte, hT, hD, hSY, hL, List.length_cons] <;> ((repeat' split) <;> (change _ = true; kernel_rfl))
      · have b2 := b2 hcz.symm
        have hcz : (c.length : Int) = (z.length : Int) := by omega
        rcases hSX X hX with ⟨rfl, hSY⟩ | ⟨rfl, hSY⟩ <;> simp -implicitDefEqProofs (maxSteps := 4000000) (disch := omega) only [go_sem, go_sem_proc, dr, Nat.min_def, ↓reduceIte, hT, hD, hSY, hL, hcz, List.length_cons] <;> ((repeat' split) <;> (change _ = true; kernel_rfl))
    · obtain ⟨c, X, hX, hT, hD, b1, b2, b3⟩ := hR4 3 (by decide) (by decide)
      simp only [List.length_cons] at b1 b2
      have b1 : z.length ≤ c.length := by omega
      have b2 : c.length = z.length → k ≤ 3 := fun h => b2 (by omega)
      clear hR4
      rcases Nat.lt_or_eq_of_le b1 with hcz | hcz
      · clear b2
        rcases hSX X hX with ⟨rfl, hSY⟩ | ⟨rfl, hSY⟩ <;> simp -implicitDefEqProofs (maxSteps := 4000000) (disch := omega) only [go_sem, go_sem_proc, dr, Nat.min_def, ↓reduceIte, hT, hD, hSY, hL, List.length_cons] <;> ((repeat' split) <;> (change _ = true; kernel_rfl))
      · have b2 := b2 hcz.symm
        have hcz : (c.length : Int) = (z.length : Int) := by omega
        rcases hSX X hX with ⟨rfl, hSY⟩ | ⟨rfl, hSY⟩ <;> simp -implicitDefEqProofs (maxSteps := 4000000) (disch := omega) only [go_sem, go_sem_proc, dr, Nat.min_def, ↓reduceIte, hT, hD, hSY, hL, hcz, List.length_cons] <;> ((repeat' split) <;> (change _ = true; kernel_rfl))
    · obtain ⟨c, X, hX, hT, hD, b1, b2, b3⟩ := hR4 4 (by decide) (by decide)
      simp only [List.length_cons] at b1 b2
      have b1 : z.length ≤ c.length := by omega
      have b2 : c.length = z.length → k ≤ 4 := fun h => b2 (by omega)
      clear hR4
      rcases Nat.lt_or_eq_of_le b1 with hcz | hcz
      · clear b2
        rcases hSX X hX with ⟨rfl, hSY⟩ | ⟨rfl, hSY⟩ <;> simp -implicitDefEqProofs (maxSteps := 4000000) (disch := omega) only [go_sem, go_sem_proc, dr, Nat.min_def, ↓reduceIte, hT, hD, hSY, hL, List.length_cons] <;> ((repeat' split) <;> (change _ = true; kernel_rfl))
      · have b2 := b2 hcz.symm
        have hcz : (c.length : Int) = (z.length : Int) := by omega
        rcases hSX X hX with ⟨rfl, hSY⟩ | ⟨rfl, hSY⟩ <;> simp -implicitDefEqProofs (maxSteps := 4000000) (disch := omega) only [go_sem, go_sem_proc, dr, Nat.min_def, ↓reduceIte, hT, hD, hSY, hL, hcz, List.length_cons] <;> ((repeat' split) <;> (change _ = true; kernel_rfl))
  case inl.refine_3 | inr.refine_3 =>
    clear hSY hD hX hCo hE hR4
    simp -implicitDefEqProofs (maxSteps := 4000000) (disch := omega) only [go_sem, go_sem_proc, dr, Nat.min_def, ↓reduceIte, hL]
    refine runs_for (fun i : Nat => (⟨[(5, .h 2097472), (6, .h 2097536), (99, .int .i64 L), (100, .int .i64 i)], [(2097472, some ⟨true, .row 2 1 (ints .i64 x)⟩), (2097536, some ⟨true, .row 5 1 (ints .u8 (k :: z))⟩)], 1⟩ : St)) x.length ?_ ?_ ?_
    · simp -implicitDefEqProofs (maxSteps := 4000000) (disch := omega) only [go_sem, go_sem_proc, dr, Nat.min_def, ↓reduceIte, hL]
    · intro i hi
      obtain ⟨y, hy, _, _⟩ := take_get hi
      have hA2 := hAt i hi
      rw [hy] at hA2
      have hiL : (i : Int) < L := by omega
      clear hAt hSX
      simp only [atR] at hA2
      simp -implicitDefEqProofs (maxSteps := 4000000) (disch := omega) only [go_sem, go_sem_proc, dr, Nat.min_def, ↓reduceIte, hL, hA2, hy]
    · simp -implicitDefEqProofs (maxSteps := 4000000) (disch := omega) only [go_sem, go_sem_proc, dr, Nat.min_def, ↓reduceIte, hL, hA]
end Go.Proofs.Ytojaklgmojmjeaa.D
