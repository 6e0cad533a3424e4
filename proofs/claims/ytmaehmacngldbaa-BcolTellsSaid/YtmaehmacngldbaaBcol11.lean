/- Columns of bytes: lists, read. -/
import Derived.Test.YtmaehmacngldbaaBcol10
import Derived.Test.YtmaehmacngldbaaBitp3
namespace Go.Proofs.Ytmaehmacngldbaa.D
open Go Go.Den
set_option linter.unusedSimpArgs false
set_option linter.unusedVariables false
set_option maxRecDepth 20000
set_option maxHeartbeats 8000000
/-- a row of the call's own, or nil -/
def IsOB (X : PV) (l : List RB') : Prop := X = .nr 28 1 (l.map brow) ∨ (X = .nils ∧ l = [])
theorem Rest_r {s : Option (List Int)} (h : GoodR s) : dw E 37 [.pb 16777216 0] [rbx s] = some (.nr 5 1 (ints .u8 (restB s)), [rbx s]) := by
  cases s with
  | none => exact Rest_nils
  | some zs => exact Rest_sl (by have := h.2; omega)
theorem restB_good {s : Option (List Int)} (h : GoodR s) : R8 (restB s) ∧ (restB s).length ≤ 1000000000 := by
  cases s with
  | none => exact ⟨fun z hz => by simp [restB] at hz, by simp [restB]⟩
  | some r => exact h
theorem unpack_r {n c : Int} {zs w : List Int} (h : unpack n zs c = some w) : w.length = c.toNat ∧ 0 ≤ c ∧ c ≤ 65535 ∧ R64 w := by
  unfold unpack at h
  split at h
  · cases h
  · rename_i hc
    split at h
    · injection h with h
      subst h
      exact ⟨unpL_length _ _ _, by omega, by omega, unpL_R64 (heldN_le n) zs _⟩
    · cases h
theorem pickB_ok {u : List RB'} : ∀ {l : List Int}, (∀ x ∈ l, x < (u.length : Int)) → pickO u l = some (l.map fun i => u.getD i.toNat none)
  | [], _ => rfl
  | i :: r, h => by
    have h1 := h i (by simp)
    rw [pickO, if_neg (by omega), pickB_ok (fun x hx => h x (by simp [hx]))]
    rfl
theorem pickB_bad {u : List RB'} : ∀ {l : List Int} {x : Int}, x ∈ l → (u.length : Int) ≤ x → pickO u l = none
  | [], _, h, _ => by simp at h
  | i :: r, x, h, hx => by
    rw [pickO]
    split
    · rfl
    · rcases List.mem_cons.1 h with rfl | h
      · omega
      · rw [pickB_bad h hx]; rfl
theorem undict_spec {s : Option (List Int)} {n : Nat} (h : GoodR s) (hn : n ≤ 65535) : ∃ X s', dw E 22 [.pb 16777216 0, .int .i64 n] [rbx s] = some (X, [rbx s']) ∧ IsOB X ((undB n s).map nz) := by
  have hN := RNum_r h
  obtain ⟨g1, g2, g3⟩ := rnumB_good h
  unfold undB
  clear h
  generalize rnumB s = p at *
  obtain ⟨v, s1⟩ := p
  dsimp only at *
  cases s1 with
  | none =>
    refine ⟨.nils, none, ?_, .inr ⟨rfl, by simp⟩⟩
    cases s <;> simp only [rbx] at hN ⊢ <;> (refine dw_in (fn := Try.f22) rfl body22 (by simp) ?_) <;> simp -implicitDefEqProofs (maxSteps := 4000000) (disch := omega) only [go_sem, go_sem_proc, dr, Nat.min_def, ↓reduceIte, hN, Ok_nils, Bool.not_true, Bool.not_false]
  | some z1 =>
    by_cases hv : (n : Int) < v
    · refine ⟨.nils, some z1, ?_, .inr ⟨rfl, by rw [if_pos (.inr hv)]; rfl⟩⟩
      clear g1
      cases s <;> simp only [rbx] at hN ⊢ <;> (refine dw_in (fn := Try.f22) rfl body22 (by simp) ?_) <;> simp -implicitDefEqProofs (maxSteps := 4000000) (disch := omega) only [go_sem, go_sem_proc, dr, Nat.min_def, ↓reduceIte, hN, Ok_sl, Bool.not_true, Bool.not_false]
    · rw [if_neg (by rintro (h | h); cases h; exact hv h)]
      obtain ⟨m, rfl⟩ := Int.eq_ofNat_of_zero_le g2
      simp only [Int.toNat_natCast]
      have hU := unplain_spec (n := m) g1 (by omega)
      obtain ⟨u1, u2, u3⟩ := unpB_good g1 m
      generalize unpB m (some z1) = q at *
      obtain ⟨u, s2⟩ := q
      dsimp only at *
      have hR := Rest_r u1
      obtain ⟨r8, rl⟩ := restB_good u1
      generalize restB s2 = rr at *
      have hW := wide_spec (n := u.length) (by omega)
      have hP := Unpack_spec (zs := rr) (n := (width (u.length - 1) : Nat)) (c := n) r8 (by omega)
      have hUm : (u.map brow).length = u.length := List.length_map ..
      have hUg : ∀ (i : Nat) o, u[i]? = some o → (u.map brow)[i]? = some [bl o] := fun i o ho => by simp [ho, brow]
      cases s2 with
      | none =>
        simp only [rbx] at hU hR
        cases hun : unpack (width (u.length - 1) : Nat) rr n with
        | none =>
          rw [hun] at hP
          refine ⟨.nr 28 1 (([] : List RB').map brow), none, ?_, .inl rfl⟩
          simp only [resU, rbx] at hP ⊢
          clear r8 hun u2 g1 hUg
          generalize u.map brow = U at *
          cases s <;> simp only [rbx] at hN ⊢ <;> (refine dw_in (fn := Try.f22) rfl body22 (by simp) ?_) <;> simp -implicitDefEqProofs (maxSteps := 4000000) (disch := omega) only [go_sem, go_sem_proc, dr, Nat.min_def, ↓reduceIte, hN, Ok_sl, Bool.not_true, Bool.not_false, hU, hR, hW, hP, hUm]
          all_goals refine runs_for (fun i : Nat => (⟨[(6, .h 2097536), (9, .h 2097728), (37, .nils), (38, .int .i64 0), (39, .int .i64 i)], [(2097536, some ⟨true, .row 28 1 U⟩), (2097728, some ⟨true, .row 28 1 []⟩), (16777216, some ⟨true, .box [.nils, .bool true]⟩)], 1⟩ : St)) 0 ?_ (fun i h => absurd h (Nat.not_lt_zero i)) ?_
          all_goals simp -implicitDefEqProofs (maxSteps := 4000000) (disch := omega) only [go_sem, go_sem_proc, dr, Nat.min_def, ↓reduceIte, List.map_nil]
        | some al =>
          obtain ⟨f1, f2, f3, f4⟩ := unpack_r hun
          rw [hun] at hP
          rw [Option.getD_some]
          obtain ⟨L, hL⟩ : ∃ L : Int, (al.length : Int) = L := ⟨_, rfl⟩
          obtain ⟨M, hM⟩ : ∃ M : Int, (u.length : Int) = M := ⟨_, rfl⟩
          have hLr : 0 ≤ L ∧ L ≤ 65535 := by omega
          have hMr : 0 ≤ M ∧ M ≤ 65535 := by omega
          rw [hM] at hW
          have hMu : M % 18446744073709551616 = M := by omega
          by_cases hall : ∀ x ∈ al, x < (u.length : Int)
          · refine ⟨.nr 28 1 ((al.map fun i => nz (u.getD i.toNat none)).map brow), none, ?_, .inl (by rw [pickB_ok hall]; simp [List.map_map, Function.comp_def])⟩
            simp only [resU, rbx] at hP ⊢
            clear r8 hun g1
            generalize hUU : u.map brow = U at *
            cases s <;> simp only [rbx] at hN ⊢ <;> (refine dw_in (fn := Try.f22) rfl body22 (by simp) ?_) <;> simp -implicitDefEqProofs (maxSteps := 4000000) (disch := omega) only [go_sem, go_sem_proc, dr, Nat.min_def, ↓reduceIte, hN, Ok_sl, Bool.not_true, Bool.not_false, hU, hR, hM, hL, hMu, hW, hP, hUm]
            all_goals refine runs_for (fun i : Nat => (⟨[(6, .h 2097536), (9, .h 2097728), (37, .h 2099520), (38, .int .i64 L), (39, .int .i64 i)], [(2097536, some ⟨true, .row 28 1 U⟩), (2097728, some ⟨true, .row 28 1 (((al.take i).map fun i => nz (u.getD i.toNat none)).map brow)⟩), (2099520, some ⟨true, .row 58 1 (ints .u64 al)⟩), (16777216, some ⟨true, .box [.nils, .bool true]⟩)], 1⟩ : St)) al.length ?_ ?_ ?_
            case refine_1 | refine_1 =>
              simp -implicitDefEqProofs (maxSteps := 4000000) (disch := omega) only [go_sem, go_sem_proc, dr, Nat.min_def, ↓reduceIte, ints, List.map_nil, List.take_zero]
            case refine_2 | refine_2 =>
              intro i hi
              obtain ⟨x, hx, hm, ht⟩ := take_get hi
              have hxr := f4 x hm
              have hxu := hall x hm
              rw [hM] at hxu
              have hlt : (al.take i).length ≤ 65535 := by simp; omega
              have hiL : (i : Int) < L := by omega
              obtain ⟨y, hy, hym, _⟩ := take_get (l := u) (i := x.toNat) (by omega)
              have hg : u.getD x.toNat none = y := by simp [List.getD, hy]
              have h9 : x < 9223372036854775808 := by omega
              have hyl := (u2 y hym).2
              have hUx := hUg x.toNat y hy
              have hnext : ((al.take (i + 1)).map fun i => nz (u.getD i.toNat none)).map brow = ((al.take i).map fun i => nz (u.getD i.toNat none)).map brow ++ [[.sl 1 (ints .u8 (bz y))]] := by rw [ht, List.map_append, List.map_cons, List.map_nil, hg, List.map_append, List.map_cons, List.map_nil]; rfl
              rw [hnext]
              have hol : (((al.take i).map fun i => nz (u.getD i.toNat none)).map brow).length = (al.take i).length := by rw [List.length_map, List.length_map]
              generalize ((al.take i).map fun i => nz (u.getD i.toNat none)).map brow = out at *
              clear hN hR hU hP hW f4 f1 f2 f3 hall ht hg hUg u2 hUU hy hnext
              have hC := cloneF_bl 5 (o := y) (by omega)
              simp -implicitDefEqProofs (maxSteps := 4000000) (disch := omega) only [go_sem, go_sem_proc, dr, Nat.min_def, ↓reduceIte, hx, hL, hM, hMu, hUm, hUx, hol, hC]
            case refine_3 | refine_3 =>
              clear hN hR hU hP hW f4
              simp -implicitDefEqProofs (maxSteps := 4000000) (disch := omega) only [go_sem, go_sem_proc, dr, Nat.min_def, ↓reduceIte, List.take_length]
          · refine ⟨.nils, none, ?_, .inr ⟨rfl, ?_⟩⟩
            · simp only [resU, rbx] at hP ⊢
              clear r8 hun g1
              generalize hUU : u.map brow = U at *
              cases s <;> simp only [rbx] at hN ⊢ <;> (refine dw_in (fn := Try.f22) rfl body22 (by simp) ?_) <;> simp -implicitDefEqProofs (maxSteps := 4000000) (disch := omega) only [go_sem, go_sem_proc, dr, Nat.min_def, ↓reduceIte, hN, Ok_sl, Bool.not_true, Bool.not_false, hU, hR, hM, hL, hMu, hW, hP, hUm]
              all_goals refine runs_any (fun i : Nat => (⟨[(6, .h 2097536), (9, .h 2097728), (37, .h 2099520), (38, .int .i64 L), (39, .int .i64 i)], [(2097536, some ⟨true, .row 28 1 U⟩), (2097728, some ⟨true, .row 28 1 (((al.take i).map fun i => nz (u.getD i.toNat none)).map brow)⟩), (2099520, some ⟨true, .row 58 1 (ints .u64 al)⟩), (16777216, some ⟨true, .box [.nils, .bool true]⟩)], 1⟩ : St)) (fun i => al.length - i) 0 (fun i => i ≤ al.length ∧ ∀ x ∈ al.take i, x < (u.length : Int)) ⟨Nat.zero_le _, by simp⟩ ?_ ?_
              case refine_1 | refine_1 =>
                simp -implicitDefEqProofs (maxSteps := 4000000) (disch := omega) only [go_sem, go_sem_proc, dr, Nat.min_def, ↓reduceIte, ints, List.map_nil, List.take_zero]
              case refine_2 | refine_2 =>
                rintro i ⟨hi, hpre⟩
                by_cases he : i = al.length
                · subst he
                  rw [List.take_length] at hpre
                  exact absurd hpre hall
                · obtain ⟨x, hx, hm, ht⟩ := take_get (l := al) (i := i) (by omega)
                  have hxr := f4 x hm
                  have hlt : (al.take i).length ≤ 65535 := by simp; omega
                  have hiL : (i : Int) < L := by omega
                  have hol : (((al.take i).map fun i => nz (u.getD i.toNat none)).map brow).length = (al.take i).length := by rw [List.length_map, List.length_map]
                  by_cases hxu : x < M
                  · obtain ⟨y, hy, hym, _⟩ := take_get (l := u) (i := x.toNat) (by omega)
                    have hg : u.getD x.toNat none = y := by simp [List.getD, hy]
                    have h9 : x < 9223372036854775808 := by omega
                    have hyl := (u2 y hym).2
                    have hUx := hUg x.toNat y hy
                    have hnext : ((al.take (i + 1)).map fun i => nz (u.getD i.toNat none)).map brow = ((al.take i).map fun i => nz (u.getD i.toNat none)).map brow ++ [[.sl 1 (ints .u8 (bz y))]] := by rw [ht, List.map_append, List.map_cons, List.map_nil, hg, List.map_append, List.map_cons, List.map_nil]; rfl
                    generalize hout : ((al.take i).map fun i => nz (u.getD i.toNat none)).map brow = out at *
                    have hpre' : ∀ z ∈ al.take (i + 1), z < (u.length : Int) := fun z hz => by
                      rw [ht] at hz
                      rcases List.mem_append.1 hz with hz | hz
                      · exact hpre z hz
                      · rw [List.mem_singleton.1 hz]; omega
                    clear hN hR hU hP hW f4 f1 f2 f3 hall ht hg hUg u2 hUU hy hpre hout
                    have hC := cloneF_bl 5 (o := y) (by omega)
                    simp -implicitDefEqProofs (maxSteps := 4000000) (disch := omega) only [go_sem, go_sem_proc, dr, Nat.min_def, ↓reduceIte, hx, hL, hM, hMu, hUm, hUx, hol, hC]
                    rw [hM] at hpre'
                    exact ⟨i + 1, by rw [hnext]; rfl, ⟨by omega, hpre'⟩, by omega⟩
                  · have hxu' : M ≤ x := by omega
                    clear hN hR hU hP hW f4 f1 f2 f3 hall hxu hpre u2 hUg
                    simp -implicitDefEqProofs (maxSteps := 4000000) (disch := omega) only [go_sem, go_sem_proc, dr, Nat.min_def, ↓reduceIte, hx, hL, hM, hMu, hUm, hol]
            · have : ∃ x, x ∈ al ∧ (u.length : Int) ≤ x := by
                refine Classical.byContradiction fun hno => hall fun x hx => ?_
                refine Int.lt_of_not_ge fun hle => hno ⟨x, hx, hle⟩
              obtain ⟨x, hx, hle⟩ := this
              rw [pickB_bad hx hle]; rfl
      | some z2 =>
        simp only [rbx] at hU hR
        cases hun : unpack (width (u.length - 1) : Nat) rr n with
        | none =>
          rw [hun] at hP
          refine ⟨.nr 28 1 (([] : List RB').map brow), some z2, ?_, .inl rfl⟩
          simp only [resU, rbx] at hP ⊢
          clear r8 hun u2 g1 hUg
          generalize u.map brow = U at *
          cases s <;> simp only [rbx] at hN ⊢ <;> (refine dw_in (fn := Try.f22) rfl body22 (by simp) ?_) <;> simp -implicitDefEqProofs (maxSteps := 4000000) (disch := omega) only [go_sem, go_sem_proc, dr, Nat.min_def, ↓reduceIte, hN, Ok_sl, Bool.not_true, Bool.not_false, hU, hR, hW, hP, hUm]
          all_goals refine runs_for (fun i : Nat => (⟨[(6, .h 2097536), (9, .h 2097728), (37, .nils), (38, .int .i64 0), (39, .int .i64 i)], [(2097536, some ⟨true, .row 28 1 U⟩), (2097728, some ⟨true, .row 28 1 []⟩), (16777216, some ⟨true, .box [.sl 1 (ints .u8 z2), .bool false]⟩)], 1⟩ : St)) 0 ?_ (fun i h => absurd h (Nat.not_lt_zero i)) ?_
          all_goals simp -implicitDefEqProofs (maxSteps := 4000000) (disch := omega) only [go_sem, go_sem_proc, dr, Nat.min_def, ↓reduceIte, List.map_nil]
        | some al =>
          obtain ⟨f1, f2, f3, f4⟩ := unpack_r hun
          rw [hun] at hP
          rw [Option.getD_some]
          obtain ⟨L, hL⟩ : ∃ L : Int, (al.length : Int) = L := ⟨_, rfl⟩
          obtain ⟨M, hM⟩ : ∃ M : Int, (u.length : Int) = M := ⟨_, rfl⟩
          have hLr : 0 ≤ L ∧ L ≤ 65535 := by omega
          have hMr : 0 ≤ M ∧ M ≤ 65535 := by omega
          rw [hM] at hW
          have hMu : M % 18446744073709551616 = M := by omega
          by_cases hall : ∀ x ∈ al, x < (u.length : Int)
          · refine ⟨.nr 28 1 ((al.map fun i => nz (u.getD i.toNat none)).map brow), some z2, ?_, .inl (by rw [pickB_ok hall]; simp [List.map_map, Function.comp_def])⟩
            simp only [resU, rbx] at hP ⊢
            clear r8 hun g1
            generalize hUU : u.map brow = U at *
            cases s <;> simp only [rbx] at hN ⊢ <;> (refine dw_in (fn := Try.f22) rfl body22 (by simp) ?_) <;> simp -implicitDefEqProofs (maxSteps := 4000000) (disch := omega) only [go_sem, go_sem_proc, dr, Nat.min_def, ↓reduceIte, hN, Ok_sl, Bool.not_true, Bool.not_false, hU, hR, hM, hL, hMu, hW, hP, hUm]
            all_goals refine runs_for (fun i : Nat => (⟨[(6, .h 2097536), (9, .h 2097728), (37, .h 2099520), (38, .int .i64 L), (39, .int .i64 i)], [(2097536, some ⟨true, .row 28 1 U⟩), (2097728, some ⟨true, .row 28 1 (((al.take i).map fun i => nz (u.getD i.toNat none)).map brow)⟩), (2099520, some ⟨true, .row 58 1 (ints .u64 al)⟩), (16777216, some ⟨true, .box [.sl 1 (ints .u8 z2), .bool false]⟩)], 1⟩ : St)) al.length ?_ ?_ ?_
            case refine_1 | refine_1 =>
              simp -implicitDefEqProofs (maxSteps := 4000000) (disch := omega) only [go_sem, go_sem_proc, dr, Nat.min_def, ↓reduceIte, ints, List.map_nil, List.take_zero]
            case refine_2 | refine_2 =>
              intro i hi
              obtain ⟨x, hx, hm, ht⟩ := take_get hi
              have hxr := f4 x hm
              have hxu := hall x hm
              rw [hM] at hxu
              have hlt : (al.take i).length ≤ 65535 := by simp; omega
              have hiL : (i : Int) < L := by omega
              obtain ⟨y, hy, hym, _⟩ := take_get (l := u) (i := x.toNat) (by omega)
              have hg : u.getD x.toNat none = y := by simp [List.getD, hy]
              have h9 : x < 9223372036854775808 := by omega
              have hyl := (u2 y hym).2
              have hUx := hUg x.toNat y hy
              have hnext : ((al.take (i + 1)).map fun i => nz (u.getD i.toNat none)).map brow = ((al.take i).map fun i => nz (u.getD i.toNat none)).map brow ++ [[.sl 1 (ints .u8 (bz y))]] := by rw [ht, List.map_append, List.map_cons, List.map_nil, hg, List.map_append, List.map_cons, List.map_nil]; rfl
              rw [hnext]
              have hol : (((al.take i).map fun i => nz (u.getD i.toNat none)).map brow).length = (al.take i).length := by rw [List.length_map, List.length_map]
              generalize ((al.take i).map fun i => nz (u.getD i.toNat none)).map brow = out at *
              clear hN hR hU hP hW f4 f1 f2 f3 hall ht hg hUg u2 hUU hy hnext
              have hC := cloneF_bl 5 (o := y) (by omega)
              simp -implicitDefEqProofs (maxSteps := 4000000) (disch := omega) only [go_sem, go_sem_proc, dr, Nat.min_def, ↓reduceIte, hx, hL, hM, hMu, hUm, hUx, hol, hC]
            case refine_3 | refine_3 =>
              clear hN hR hU hP hW f4
              simp -implicitDefEqProofs (maxSteps := 4000000) (disch := omega) only [go_sem, go_sem_proc, dr, Nat.min_def, ↓reduceIte, List.take_length]
          · refine ⟨.nils, some z2, ?_, .inr ⟨rfl, ?_⟩⟩
            · simp only [resU, rbx] at hP ⊢
              clear r8 hun g1
              generalize hUU : u.map brow = U at *
              cases s <;> simp only [rbx] at hN ⊢ <;> (refine dw_in (fn := Try.f22) rfl body22 (by simp) ?_) <;> simp -implicitDefEqProofs (maxSteps := 4000000) (disch := omega) only [go_sem, go_sem_proc, dr, Nat.min_def, ↓reduceIte, hN, Ok_sl, Bool.not_true, Bool.not_false, hU, hR, hM, hL, hMu, hW, hP, hUm]
              all_goals refine runs_any (fun i : Nat => (⟨[(6, .h 2097536), (9, .h 2097728), (37, .h 2099520), (38, .int .i64 L), (39, .int .i64 i)], [(2097536, some ⟨true, .row 28 1 U⟩), (2097728, some ⟨true, .row 28 1 (((al.take i).map fun i => nz (u.getD i.toNat none)).map brow)⟩), (2099520, some ⟨true, .row 58 1 (ints .u64 al)⟩), (16777216, some ⟨true, .box [.sl 1 (ints .u8 z2), .bool false]⟩)], 1⟩ : St)) (fun i => al.length - i) 0 (fun i => i ≤ al.length ∧ ∀ x ∈ al.take i, x < (u.length : Int)) ⟨Nat.zero_le _, by simp⟩ ?_ ?_
              case refine_1 | refine_1 =>
                simp -implicitDefEqProofs (maxSteps := 4000000) (disch := omega) only [go_sem, go_sem_proc, dr, Nat.min_def, ↓reduceIte, ints, List.map_nil, List.take_zero]
              case refine_2 | refine_2 =>
                rintro i ⟨hi, hpre⟩
                by_cases he : i = al.length
                · subst he
                  rw [List.take_length] at hpre
                  exact absurd hpre hall
                · obtain ⟨x, hx, hm, ht⟩ := take_get (l := al) (i := i) (by omega)
                  have hxr := f4 x hm
                  have hlt : (al.take i).length ≤ 65535 := by simp; omega
                  have hiL : (i : Int) < L := by omega
                  have hol : (((al.take i).map fun i => nz (u.getD i.toNat none)).map brow).length = (al.take i).length := by rw [List.length_map, List.length_map]
                  by_cases hxu : x < M
                  · obtain ⟨y, hy, hym, _⟩ := take_get (l := u) (i := x.toNat) (by omega)
                    have hg : u.getD x.toNat none = y := by simp [List.getD, hy]
                    have h9 : x < 9223372036854775808 := by omega
                    have hyl := (u2 y hym).2
                    have hUx := hUg x.toNat y hy
                    have hnext : ((al.take (i + 1)).map fun i => nz (u.getD i.toNat none)).map brow = ((al.take i).map fun i => nz (u.getD i.toNat none)).map brow ++ [[.sl 1 (ints .u8 (bz y))]] := by rw [ht, List.map_append, List.map_cons, List.map_nil, hg, List.map_append, List.map_cons, List.map_nil]; rfl
                    generalize hout : ((al.take i).map fun i => nz (u.getD i.toNat none)).map brow = out at *
                    have hpre' : ∀ z ∈ al.take (i + 1), z < (u.length : Int) := fun z hz => by
                      rw [ht] at hz
                      rcases List.mem_append.1 hz with hz | hz
                      · exact hpre z hz
                      · rw [List.mem_singleton.1 hz]; omega
                    clear hN hR hU hP hW f4 f1 f2 f3 hall ht hg hUg u2 hUU hy hpre hout
                    have hC := cloneF_bl 5 (o := y) (by omega)
                    simp -implicitDefEqProofs (maxSteps := 4000000) (disch := omega) only [go_sem, go_sem_proc, dr, Nat.min_def, ↓reduceIte, hx, hL, hM, hMu, hUm, hUx, hol, hC]
                    rw [hM] at hpre'
                    exact ⟨i + 1, by rw [hnext]; rfl, ⟨by omega, hpre'⟩, by omega⟩
                  · have hxu' : M ≤ x := by omega
                    clear hN hR hU hP hW f4 f1 f2 f3 hall hxu hpre u2 hUg
                    simp -implicitDefEqProofs (maxSteps := 4000000) (disch := omega) only [go_sem, go_sem_proc, dr, Nat.min_def, ↓reduceIte, hx, hL, hM, hMu, hUm, hol]
            · have : ∃ x, x ∈ al ∧ (u.length : Int) ≤ x := by
                refine Classical.byContradiction fun hno => hall fun x hx => ?_
                refine Int.lt_of_not_ge fun hle => hno ⟨x, hx, hle⟩
              obtain ⟨x, hx, hle⟩ := this
              rw [pickB_bad hx hle]; rfl
end Go.Proofs.Ytmaehmacngldbaa.D
