/- Columns of numbers: lists, read. -/
import Derived.Test.YtojaklgmojmjeaaIcol7
namespace Go.Proofs.Ytojaklgmojmjeaa.D
open Go Go.Den
set_option linter.unusedSimpArgs false
set_option linter.unusedVariables false
set_option maxRecDepth 20000
set_option maxHeartbeats 8000000
theorem pickL_ok {u : List Int} : ∀ {l : List Int}, (∀ x ∈ l, x < (u.length : Int)) → pickL u l = some (l.map fun i => u.getD i.toNat 0)
  | [], _ => rfl
  | i :: r, h => by
    have h1 := h i (by simp)
    rw [pickL, if_neg (by omega), pickL_ok (fun x hx => h x (by simp [hx]))]
    rfl
theorem pickL_bad {u : List Int} : ∀ {l : List Int} {x : Int}, x ∈ l → (u.length : Int) ≤ x → pickL u l = none
  | [], _, h, _ => by simp at h
  | i :: r, x, h, hx => by
    rw [pickL]
    split
    · rfl
    · rcases List.mem_cons.1 h with rfl | h
      · omega
      · rw [pickL_bad h hx]; rfl
theorem pickL_len {u l o : List Int} (h : pickL u l = some o) : o.length = l.length := by
  induction l generalizing o with
  | nil => injection h with h; subst h; rfl
  | cons i r ih =>
    rw [pickL] at h
    split at h
    · cases h
    · cases hp : pickL u r with
      | none => rw [hp] at h; cases h
      | some q =>
        rw [hp] at h
        injection h with h
        subst h
        simp [ih hp]
theorem undict_spec {s : Option (List Int)} {n : Nat} (h : GoodR s) (hn : n ≤ 65535) : ∃ X s', dw E 22 [.pb 16777216 0, .int .i64 n] [rbx s] = some (X, [rbx s']) ∧ IsO X (undL n s) := by
  have hN := RNum_r h
  obtain ⟨g1, g2, g3⟩ := rnum_good h
  unfold undL
  clear h
  generalize rnum s = p at *
  obtain ⟨v, s1⟩ := p
  dsimp only at *
  cases s1 with
  | none =>
    refine ⟨.nils, none, ?_, .inr ⟨rfl, by simp⟩⟩
    cases s <;> simp only [rbx] at hN ⊢ <;> (refine dw_in (fn := Try.f22) rfl body22 (by simp) ?_) <;> simp -implicitDefEqProofs (maxSteps := 4000000) (disch := omega) only [go_sem, go_sem_proc, dr, Nat.min_def, ↓reduceIte, hN, Ok_nils, Bool.not_true, Bool.not_false]
  | some z1 =>
    by_cases hv : (n : Int) < v
    · refine ⟨.nils, some z1, ?_, .inr ⟨rfl, by rw [if_pos (.inr hv)]⟩⟩
      clear g1
      cases s <;> simp only [rbx] at hN ⊢ <;> (refine dw_in (fn := Try.f22) rfl body22 (by simp) ?_) <;> simp -implicitDefEqProofs (maxSteps := 4000000) (disch := omega) only [go_sem, go_sem_proc, dr, Nat.min_def, ↓reduceIte, hN, Ok_sl, Bool.not_true, Bool.not_false]
    · rw [if_neg (by rintro (h | h); cases h; exact hv h)]
      obtain ⟨m, rfl⟩ := Int.eq_ofNat_of_zero_le g2
      simp only [Int.toNat_natCast]
      have hU := unplain_spec (n := m) g1 (by omega)
      obtain ⟨u1, u2, u3⟩ := unpS_good g1 m
      generalize unpS m (some z1) = q at *
      obtain ⟨u, s2⟩ := q
      dsimp only at *
      have hR := Rest_r u1
      obtain ⟨r8, rl⟩ := restL_good u1
      generalize restL s2 = rr at *
      have hW := wide_spec (n := u.length) (by omega)
      have hP := Unpack_spec (zs := rr) (n := (width (u.length - 1) : Nat)) (c := n) r8 (by omega)
      cases s2 with
      | none =>
        simp only [rbx] at hU hR
        cases hun : unpack (width (u.length - 1) : Nat) rr n with
        | none =>
          rw [hun] at hP
          refine ⟨.nr 2 1 (ints .i64 []), none, ?_, .inl rfl⟩
          simp only [resU, rbx] at hP ⊢
          clear r8 hun u2 g1
          cases s <;> simp only [rbx] at hN ⊢ <;> (refine dw_in (fn := Try.f22) rfl body22 (by simp) ?_) <;> simp -implicitDefEqProofs (maxSteps := 4000000) (disch := omega) only [go_sem, go_sem_proc, dr, Nat.min_def, ↓reduceIte, hN, Ok_sl, Bool.not_true, Bool.not_false, hU, hR, hW, hP]
          all_goals refine runs_for (fun i : Nat => (⟨[(6, .h 2097536), (9, .h 2097728), (37, .nils), (38, .int .i64 0), (39, .int .i64 i)], [(2097536, some ⟨true, .row 2 1 (ints .i64 u)⟩), (2097728, some ⟨true, .row 2 1 []⟩), (16777216, some ⟨true, .box [.nils, .bool true]⟩)], 1⟩ : St)) 0 ?_ (fun i h => absurd h (Nat.not_lt_zero i)) ?_
          all_goals simp -implicitDefEqProofs (maxSteps := 4000000) (disch := omega) only [go_sem, go_sem_proc, dr, Nat.min_def, ↓reduceIte, ints, List.map_nil]
        | some al =>
          obtain ⟨f1, f2, f3, f4⟩ := unpack_r hun
          rw [hun] at hP
          rw [Option.getD_some]
          obtain ⟨L, hL⟩ : ∃ L : Int, (al.length : Int) = L := ⟨_, rfl⟩
          obtain ⟨M, hM⟩ : ∃ M : Int, (u.length : Int) = M := ⟨_, rfl⟩
          have hLr : 0 ≤ L ∧ L ≤ 65535 := by omega
          have hMr : 0 ≤ M ∧ M ≤ 65535 := by omega
          rw [hM] at hW
          have hMu : M % 18446744073709551616 = M := by omega
          by_cases hall : ∀ x ∈ al, x < (u.length : Int)
          · refine ⟨.nr 2 1 (ints .i64 (al.map fun i => u.getD i.toNat 0)), none, ?_, .inl (by rw [pickL_ok hall]; rfl)⟩
            simp only [resU, rbx] at hP ⊢
            clear r8 hun u2 g1
            cases s <;> simp only [rbx] at hN ⊢ <;> (refine dw_in (fn := Try.f22) rfl body22 (by simp) ?_) <;> simp -implicitDefEqProofs (maxSteps := 4000000) (disch := omega) only [go_sem, go_sem_proc, dr, Nat.min_def, ↓reduceIte, hN, Ok_sl, Bool.not_true, Bool.not_false, hU, hR, hM, hL, hMu, hW, hP]
            all_goals refine runs_for (fun i : Nat => (⟨[(6, .h 2097536), (9, .h 2097728), (37, .h 2099520), (38, .int .i64 L), (39, .int .i64 i)], [(2097536, some ⟨true, .row 2 1 (ints .i64 u)⟩), (2097728, some ⟨true, .row 2 1 (ints .i64 ((al.take i).map fun i => u.getD i.toNat 0))⟩), (2099520, some ⟨true, .row 59 1 (ints .u64 al)⟩), (16777216, some ⟨true, .box [.nils, .bool true]⟩)], 1⟩ : St)) al.length ?_ ?_ ?_
            case refine_1 | refine_1 =>
              simp -implicitDefEqProofs (maxSteps := 4000000) (disch := omega) only [go_sem, go_sem_proc, dr, Nat.min_def, ↓reduceIte, ints, List.map_nil, List.take_zero]
            case refine_2 | refine_2 =>
              intro i hi
              obtain ⟨x, hx, hm, ht⟩ := take_get hi
              have hxr := f4 x hm
              have hxu := hall x hm
              rw [hM] at hxu
              have hlt : (al.take i).length ≤ 65535 := by simp; omega
              have hiL : (i : Int) < L := by omega
              obtain ⟨y, hy, _, _⟩ := take_get (l := u) (i := x.toNat) (by omega)
              have hg : u.getD x.toNat 0 = y := by simp [List.getD, hy]
              have h9 : x < 9223372036854775808 := by omega
              clear hN hR hU hP hW f4 f1 f2 f3 hall
              simp -implicitDefEqProofs (maxSteps := 4000000) (disch := omega) only [go_sem, go_sem_proc, dr, Nat.min_def, ↓reduceIte, hx, hL, hM, hMu, hy, List.length_map]
              rw [ht, List.map_append, List.map_cons, List.map_nil, hg]
            case refine_3 | refine_3 =>
              clear hN hR hU hP hW f4
              simp -implicitDefEqProofs (maxSteps := 4000000) (disch := omega) only [go_sem, go_sem_proc, dr, Nat.min_def, ↓reduceIte, List.take_length]
          · refine ⟨.nils, none, ?_, .inr ⟨rfl, ?_⟩⟩
            · simp only [resU, rbx] at hP ⊢
              clear r8 hun u2 g1
              cases s <;> simp only [rbx] at hN ⊢ <;> (refine dw_in (fn := Try.f22) rfl body22 (by simp) ?_) <;> simp -implicitDefEqProofs (maxSteps := 4000000) (disch := omega) only [go_sem, go_sem_proc, dr, Nat.min_def, ↓reduceIte, hN, Ok_sl, Bool.not_true, Bool.not_false, hU, hR, hM, hL, hMu, hW, hP]
              all_goals refine runs_any (fun i : Nat => (⟨[(6, .h 2097536), (9, .h 2097728), (37, .h 2099520), (38, .int .i64 L), (39, .int .i64 i)], [(2097536, some ⟨true, .row 2 1 (ints .i64 u)⟩), (2097728, some ⟨true, .row 2 1 (ints .i64 ((al.take i).map fun i => u.getD i.toNat 0))⟩), (2099520, some ⟨true, .row 59 1 (ints .u64 al)⟩), (16777216, some ⟨true, .box [.nils, .bool true]⟩)], 1⟩ : St)) (fun i => al.length - i) 0 (fun i => i ≤ al.length ∧ ∀ x ∈ al.take i, x < (u.length : Int)) ⟨Nat.zero_le _, by simp⟩ ?_ ?_
              case refine_1 | refine_1 =>
                simp -implicitDefEqProofs (maxSteps := 4000000) (disch := omega) only [go_sem, go_sem_proc, dr, Nat.min_def, ↓reduceIte, ints, List.map_nil, List.take_zero]
              case refine_2 | refine_2 =>
                rintro i ⟨hi, hpre⟩
                by_cases he : i = al.length
                · subst he
                  rw [List.take_length] at hpre
                  exact absurd hpre hall
                · obtain ⟨x, hx, hm, ht⟩ := take_get (l := al) (i := i) (by omega)
                  have hxr := f4 x hm
                  have hlt : (al.take i).length ≤ 65535 := by simp; omega
                  have hiL : (i : Int) < L := by omega
                  by_cases hxu : x < M
                  · obtain ⟨y, hy, _, _⟩ := take_get (l := u) (i := x.toNat) (by omega)
                    have hg : u.getD x.toNat 0 = y := by simp [List.getD, hy]
                    have h9 : x < 9223372036854775808 := by omega
                    clear hN hR hU hP hW f4 f1 f2 f3 hall
                    simp -implicitDefEqProofs (maxSteps := 4000000) (disch := omega) only [go_sem, go_sem_proc, dr, Nat.min_def, ↓reduceIte, hx, hL, hM, hMu, hy, List.length_map]
                    rw [hM] at hpre
                    exact ⟨i + 1, by rw [ht, List.map_append, List.map_cons, List.map_nil, hg]; rfl, ⟨by omega, fun z hz => by
                      rw [ht] at hz
                      rcases List.mem_append.1 hz with hz | hz
                      · exact hpre z hz
                      · rw [List.mem_singleton.1 hz]; exact hxu⟩, by omega⟩
                  · have hxu' : M ≤ x := by omega
                    clear hN hR hU hP hW f4 f1 f2 f3 hall hxu hpre
                    simp -implicitDefEqProofs (maxSteps := 4000000) (disch := omega) only [go_sem, go_sem_proc, dr, Nat.min_def, ↓reduceIte, hx, hL, hM, hMu, List.length_map]
            · have : ∃ x, x ∈ al ∧ (u.length : Int) ≤ x := by
                refine Classical.byContradiction fun hno => hall fun x hx => ?_
                refine Int.lt_of_not_ge fun hle => hno ⟨x, hx, hle⟩
              obtain ⟨x, hx, hle⟩ := this
              rw [pickL_bad hx hle]; rfl
      | some z2 =>
        simp only [rbx] at hU hR
        cases hun : unpack (width (u.length - 1) : Nat) rr n with
        | none =>
          rw [hun] at hP
          refine ⟨.nr 2 1 (ints .i64 []), some z2, ?_, .inl rfl⟩
          simp only [resU, rbx] at hP ⊢
          clear r8 hun u2 g1
          cases s <;> simp only [rbx] at hN ⊢ <;> (refine dw_in (fn := Try.f22) rfl body22 (by simp) ?_) <;> simp -implicitDefEqProofs (maxSteps := 4000000) (disch := omega) only [go_sem, go_sem_proc, dr, Nat.min_def, ↓reduceIte, hN, Ok_sl, Bool.not_true, Bool.not_false, hU, hR, hW, hP]
          all_goals refine runs_for (fun i : Nat => (⟨[(6, .h 2097536), (9, .h 2097728), (37, .nils), (38, .int .i64 0), (39, .int .i64 i)], [(2097536, some ⟨true, .row 2 1 (ints .i64 u)⟩), (2097728, some ⟨true, .row 2 1 []⟩), (16777216, some ⟨true, .box [.sl 1 (ints .u8 z2), .bool false]⟩)], 1⟩ : St)) 0 ?_ (fun i h => absurd h (Nat.not_lt_zero i)) ?_
          all_goals simp -implicitDefEqProofs (maxSteps := 4000000) (disch := omega) only [go_sem, go_sem_proc, dr, Nat.min_def, ↓reduceIte, ints, List.map_nil]
        | some al =>
          obtain ⟨f1, f2, f3, f4⟩ := unpack_r hun
          rw [hun] at hP
          rw [Option.getD_some]
          obtain ⟨L, hL⟩ : ∃ L : Int, (al.length : Int) = L := ⟨_, rfl⟩
          obtain ⟨M, hM⟩ : ∃ M : Int, (u.length : Int) = M := ⟨_, rfl⟩
          have hLr : 0 ≤ L ∧ L ≤ 65535 := by omega
          have hMr : 0 ≤ M ∧ M ≤ 65535 := by omega
          rw [hM] at hW
          have hMu : M % 18446744073709551616 = M := by omega
          by_cases hall : ∀ x ∈ al, x < (u.length : Int)
          · refine ⟨.nr 2 1 (ints .i64 (al.map fun i => u.getD i.toNat 0)), some z2, ?_, .inl (by rw [pickL_ok hall]; rfl)⟩
            simp only [resU, rbx] at hP ⊢
            clear r8 hun u2 g1
            cases s <;> simp only [rbx] at hN ⊢ <;> (refine dw_in (fn := Try.f22) rfl body22 (by simp) ?_) <;> simp -implicitDefEqProofs (maxSteps := 4000000) (disch := omega) only [go_sem, go_sem_proc, dr, Nat.min_def, ↓reduceIte, hN, Ok_sl, Bool.not_true, Bool.not_false, hU, hR, hM, hL, hMu, hW, hP]
            all_goals refine runs_for (fun i : Nat => (⟨[(6, .h 2097536), (9, .h 2097728), (37, .h 2099520), (38, .int .i64 L), (39, .int .i64 i)], [(2097536, some ⟨true, .row 2 1 (ints .i64 u)⟩), (2097728, some ⟨true, .row 2 1 (ints .i64 ((al.take i).map fun i => u.getD i.toNat 0))⟩), (2099520, some ⟨true, .row 59 1 (ints .u64 al)⟩), (16777216, some ⟨true, .box [.sl 1 (ints .u8 z2), .bool false]⟩)], 1⟩ : St)) al.length ?_ ?_ ?_
            case refine_1 | refine_1 =>
              simp -implicitDefEqProofs (maxSteps := 4000000) (disch := omega) only [go_sem, go_sem_proc, dr, Nat.min_def, ↓reduceIte, ints, List.map_nil, List.take_zero]
            case refine_2 | refine_2 =>
              intro i hi
              obtain ⟨x, hx, hm, ht⟩ := take_get hi
              have hxr := f4 x hm
              have hxu := hall x hm
              rw [hM] at hxu
              have hlt : (al.take i).length ≤ 65535 := by simp; omega
              have hiL : (i : Int) < L := by omega
              obtain ⟨y, hy, _, _⟩ := take_get (l := u) (i := x.toNat) (by omega)
              have hg : u.getD x.toNat 0 = y := by simp [List.getD, hy]
              have h9 : x < 9223372036854775808 := by omega
              clear hN hR hU hP hW f4 f1 f2 f3 hall
              simp -implicitDefEqProofs (maxSteps := 4000000) (disch := omega) only [go_sem, go_sem_proc, dr, Nat.min_def, ↓reduceIte, hx, hL, hM, hMu, hy, List.length_map]
              rw [ht, List.map_append, List.map_cons, List.map_nil, hg]
            case refine_3 | refine_3 =>
              clear hN hR hU hP hW f4
              simp -implicitDefEqProofs (maxSteps := 4000000) (disch := omega) only [go_sem, go_sem_proc, dr, Nat.min_def, ↓reduceIte, List.take_length]
          · refine ⟨.nils, some z2, ?_, .inr ⟨rfl, ?_⟩⟩
            · simp only [resU, rbx] at hP ⊢
              clear r8 hun u2 g1
              cases s <;> simp only [rbx] at hN ⊢ <;> (refine dw_in (fn := Try.f22) rfl body22 (by simp) ?_) <;> simp -implicitDefEqProofs (maxSteps := 4000000) (disch := omega) only [go_sem, go_sem_proc, dr, Nat.min_def, ↓reduceIte, hN, Ok_sl, Bool.not_true, Bool.not_false, hU, hR, hM, hL, hMu, hW, hP]
              all_goals refine runs_any (fun i : Nat => (⟨[(6, .h 2097536), (9, .h 2097728), (37, .h 2099520), (38, .int .i64 L), (39, .int .i64 i)], [(2097536, some ⟨true, .row 2 1 (ints .i64 u)⟩), (2097728, some ⟨true, .row 2 1 (ints .i64 ((al.take i).map fun i => u.getD i.toNat 0))⟩), (2099520, some ⟨true, .row 59 1 (ints .u64 al)⟩), (16777216, some ⟨true, .box [.sl 1 (ints .u8 z2), .bool false]⟩)], 1⟩ : St)) (fun i => al.length - i) 0 (fun i => i ≤ al.length ∧ ∀ x ∈ al.take i, x < (u.length : Int)) ⟨Nat.zero_le _, by simp⟩ ?_ ?_
              case refine_1 | refine_1 =>
                simp -implicitDefEqProofs (maxSteps := 4000000) (disch := omega) only [go_sem, go_sem_proc, dr, Nat.min_def, ↓reduceIte, ints, List.map_nil, List.take_zero]
              case refine_2 | refine_2 =>
                rintro i ⟨hi, hpre⟩
                by_cases he : i = al.length
                · subst he
                  rw [List.take_length] at hpre
                  exact absurd hpre hall
                · obtain ⟨x, hx, hm, ht⟩ := take_get (l := al) (i := i) (by omega)
                  have hxr := f4 x hm
                  have hlt : (al.take i).length ≤ 65535 := by simp; omega
                  have hiL : (i : Int) < L := by omega
                  by_cases hxu : x < M
                  · obtain ⟨y, hy, _, _⟩ := take_get (l := u) (i := x.toNat) (by omega)
                    have hg : u.getD x.toNat 0 = y := by simp [List.getD, hy]
                    have h9 : x < 9223372036854775808 := by omega
                    clear hN hR hU hP hW f4 f1 f2 f3 hall
                    simp -implicitDefEqProofs (maxSteps := 4000000) (disch := omega) only [go_sem, go_sem_proc, dr, Nat.min_def, ↓reduceIte, hx, hL, hM, hMu, hy, List.length_map]
                    rw [hM] at hpre
                    exact ⟨i + 1, by rw [ht, List.map_append, List.map_cons, List.map_nil, hg]; rfl, ⟨by omega, fun z hz => by
                      rw [ht] at hz
                      rcases List.mem_append.1 hz with hz | hz
                      · exact hpre z hz
                      · rw [List.mem_singleton.1 hz]; exact hxu⟩, by omega⟩
                  · have hxu' : M ≤ x := by omega
                    clear hN hR hU hP hW f4 f1 f2 f3 hall hxu hpre
                    simp -implicitDefEqProofs (maxSteps := 4000000) (disch := omega) only [go_sem, go_sem_proc, dr, Nat.min_def, ↓reduceIte, hx, hL, hM, hMu, List.length_map]
            · have : ∃ x, x ∈ al ∧ (u.length : Int) ≤ x := by
                refine Classical.byContradiction fun hno => hall fun x hx => ?_
                refine Int.lt_of_not_ge fun hle => hno ⟨x, hx, hle⟩
              obtain ⟨x, hx, hle⟩ := this
              rw [pickL_bad hx hle]; rfl
end Go.Proofs.Ytojaklgmojmjeaa.D
