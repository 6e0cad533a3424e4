/- Columns of numbers, read. -/
import Derived.Test.YtojaklgmojmjeaaIcol5
namespace Go.Proofs.Ytojaklgmojmjeaa.D
open Go Go.Den
set_option linter.unusedSimpArgs false
set_option linter.unusedVariables false
set_option maxRecDepth 20000
set_option maxHeartbeats 8000000
theorem pnum_lt : ∀ {zs : List Int} {i : Nat} {u v : Int} {r : List Int}, R8 zs → i ≤ 9 → 0 ≤ u → u < 128 ^ i → pnum i u zs = some (v, r) → v < 18446744073709551616
  | [], _, _, _, _, _, _, _, _, h => by simp [pnum] at h
  | c :: t, i, u, v, r, hz, hi, h0, h1, h => by
    have hc := hz c (by simp)
    have ht : R8 t := fun z hz' => hz z (by simp [hz'])
    rw [pnum] at h
    split at h
    · cases h
    · rename_i hb
      split at h
      · injection h with h
        injection h with h2 h3
        have hi' : i = 0 ∨ i = 1 ∨ i = 2 ∨ i = 3 ∨ i = 4 ∨ i = 5 ∨ i = 6 ∨ i = 7 ∨ i = 8 ∨ i = 9 := by omega
        rcases hi' with rfl | rfl | rfl | rfl | rfl | rfl | rfl | rfl | rfl | rfl <;> simp only [Int.reducePow] at h1 h2 <;> omega
      · have hi' : i = 0 ∨ i = 1 ∨ i = 2 ∨ i = 3 ∨ i = 4 ∨ i = 5 ∨ i = 6 ∨ i = 7 ∨ i = 8 ∨ i = 9 := by omega
        rcases hi' with rfl | rfl | rfl | rfl | rfl | rfl | rfl | rfl | rfl | rfl
        all_goals first
          | (refine pnum_lt ht (by omega) ?_ ?_ h <;> simp only [Int.reducePow, Nat.reduceAdd] at h1 ⊢ <;> omega)
          | (exfalso; apply hb; left; omega)
/-- a reader's box -/
def rbx : Option (List Int) → List PV
  | none => [.nils, .bool true]
  | some zs => [.sl 1 (ints .u8 zs), .bool false]
def GoodR : Option (List Int) → Prop
  | none => True
  | some zs => R8 zs ∧ zs.length ≤ 1000000000
theorem rnum_good {s : Option (List Int)} (h : GoodR s) : GoodR (rnum s).2 ∧ 0 ≤ (rnum s).1 ∧ (rnum s).1 < 18446744073709551616 := by
  cases s with
  | none => exact ⟨trivial, by decide, by decide⟩
  | some zs =>
    unfold rnum
    dsimp only
    cases hp : pnum 0 0 zs with
    | none => exact ⟨trivial, by decide, by decide⟩
    | some p =>
      obtain ⟨v, r⟩ := p
      have h1 := pnum_len hp
      exact ⟨⟨pnum_R8 hp h.1, by have := h.2; omega⟩, pnum_nonneg hp (by decide), pnum_lt h.1 (by decide) (by decide) (by decide) hp⟩
theorem RNum_r {s : Option (List Int)} (h : GoodR s) : dw E 33 [.pb 16777216 0] [rbx s] = some (.int .u64 (rnum s).1, [rbx (rnum s).2]) := by
  cases s with
  | none => exact RNum_nils
  | some zs =>
    refine (RNum_sl h.1 (by have := h.2; omega)).trans ?_
    unfold rnum
    dsimp only
    cases pnum 0 0 zs with
    | none => rfl
    | some p => rfl
theorem unpS_good {s : Option (List Int)} (h : GoodR s) : ∀ j, GoodR (unpS j s).2 ∧ Ri64 (unpS j s).1 ∧ (unpS j s).1.length = j
  | 0 => ⟨h, fun z hz => by simp [unpS] at hz, rfl⟩
  | j + 1 => by
    obtain ⟨h1, h2, h3⟩ := unpS_good h j
    obtain ⟨h4, h5, h6⟩ := rnum_good h1
    refine ⟨h4, fun z hz => ?_, by simp [unpS, h3]⟩
    simp only [unpS, List.mem_append, List.mem_singleton] at hz
    rcases hz with hz | rfl
    · exact h2 z hz
    · unfold zag; split <;> omega
theorem unplain_spec {s : Option (List Int)} {n : Nat} (h : GoodR s) (hn : n ≤ 65535) : dw E 19 [.pb 16777216 0, .int .i64 n] [rbx s] = some (.nr 2 1 (ints .i64 (unpS n s).1), [rbx (unpS n s).2]) := by
  have key : ∀ s1 : Option (List Int), s1 = s → dw E 19 [.pb 16777216 0, .int .i64 n] [rbx s1] = some (.nr 2 1 (ints .i64 (unpS n s).1), [rbx (unpS n s).2]) := by
    intro s1 hs1
    have hR : GoodR s1 := hs1 ▸ h
    cases s1 <;> (refine dw_in (fn := Try.f19) rfl body19 (by simp) ?_) <;> simp -implicitDefEqProofs (maxSteps := 4000000) (disch := omega) only [go_sem, go_sem_proc, dr, Nat.min_def, ↓reduceIte, rbx]
    all_goals refine runs_for (fun i : Nat => (⟨[(0, .pb 16777216 0), (5, .h 2097472), (6, .int .i64 n), (7, .int .i64 i)], [(2097472, some ⟨true, .row 2 1 (ints .i64 (unpS i s).1)⟩), (16777216, some ⟨true, .box (rbx (unpS i s).2)⟩)], 1⟩ : St)) n ?_ (fun i hi => ?_) ?_
    case refine_1 | refine_1 =>
      simp -implicitDefEqProofs (maxSteps := 4000000) (disch := omega) only [go_sem, go_sem_proc, dr, Nat.min_def, ↓reduceIte, unpS, ← hs1, rbx]
      rfl
    case refine_2 | refine_2 =>
      obtain ⟨g1, g2, g3⟩ := unpS_good h i
      have hN := RNum_r g1
      obtain ⟨g4, g5, g6⟩ := rnum_good g1
      have hZ := Zag_spec g5 g6
      have e1 : (unpS (i + 1) s).1 = (unpS i s).1 ++ [zag (rnum (unpS i s).2).1] := rfl
      have e2 : (unpS (i + 1) s).2 = (rnum (unpS i s).2).2 := rfl
      rw [e1, e2]
      have hl : (unpS i s).1.length ≤ 65535 := by omega
      generalize (unpS i s).1 = out at *
      generalize (unpS i s).2 = s2 at *
      generalize (rnum s2).1 = v at *
      generalize (rnum s2).2 = s3 at *
      clear g1 g2 g4 e1 e2 h hR hs1
      cases s2 <;> cases s3 <;> simp only [rbx] at hN ⊢
      all_goals simp -implicitDefEqProofs (maxSteps := 4000000) (disch := omega) only [go_sem, go_sem_proc, dr, Nat.min_def, ↓reduceIte, hN, hZ]
    case refine_3 | refine_3 =>
      generalize (unpS n s).1 = out at *
      generalize (unpS n s).2 = s2 at *
      clear h hR hs1
      cases s2 <;> simp only [rbx] <;> simp -implicitDefEqProofs (maxSteps := 4000000) (disch := omega) only [go_sem, go_sem_proc, dr, Nat.min_def, ↓reduceIte]
  exact key s rfl
def outR : Option (List Int) → PV
  | none => .nils
  | some l => .nr 2 1 (ints .i64 l)
theorem unrS_good {n : Nat} : ∀ (f : Nat) {out : List Int} {s : Option (List Int)}, GoodR s → Ri64 out → out.length ≤ n → GoodR (unrS n f out s).2 ∧ ∀ l, (unrS n f out s).1 = some l → Ri64 l ∧ l.length ≤ n
  | 0, out, s, h, ho, hl => ⟨h, fun l e => by injection e with e; subst e; exact ⟨ho, hl⟩⟩
  | f + 1, out, s, h, ho, hl => by
    obtain ⟨h1, h2, h3⟩ := rnum_good h
    obtain ⟨h4, h5, h6⟩ := rnum_good h1
    rw [unrS]
    split
    · split
      · exact ⟨h4, fun l e => by cases e⟩
      · rename_i hc
        refine unrS_good f h4 (fun z hz => ?_) ?_
        · rcases List.mem_append.1 hz with hz | hz
          · exact ho z hz
          · obtain ⟨_, rfl⟩ := List.mem_replicate.1 hz
            unfold zag; split <;> omega
        · rw [List.length_append, List.length_replicate]
          have : ¬ ((n - out.length : Nat) : Int) < (rnum s).1 := fun h => hc (.inr (.inr h))
          omega
    · exact ⟨h, fun l e => by injection e with e; subst e; exact ⟨ho, hl⟩⟩
theorem unruns_spec {s : Option (List Int)} {n : Nat} (h : GoodR s) (hn : n ≤ 65535) : dw E 20 [.pb 16777216 0, .int .i64 n] [rbx s] = some (outR (unrS n (n + 1) [] s).1, [rbx (unrS n (n + 1) [] s).2]) := by
  generalize hRR : unrS n (n + 1) [] s = RR
  have key : ∀ s1 : Option (List Int), s1 = s → dw E 20 [.pb 16777216 0, .int .i64 n] [rbx s1] = some (outR RR.1, [rbx RR.2]) := by
    intro s1 hs1
    cases s1 <;> (refine dw_in (fn := Try.f20) rfl body20 (by simp) ?_) <;> simp -implicitDefEqProofs (maxSteps := 4000000) (disch := omega) only [go_sem, go_sem_proc, dr, Nat.min_def, ↓reduceIte, rbx]
    all_goals refine runs_any (fun a : List Int × Option (List Int) × Nat => (⟨[(0, .pb 16777216 0), (1, .int .i64 n), (5, .h 2097472)], [(2097472, some ⟨true, .row 2 1 (ints .i64 a.1)⟩), (16777216, some ⟨true, .box (rbx a.2.1)⟩)], 1⟩ : St)) (fun a => a.2.2) ([], s, n + 1) (fun a => unrS n a.2.2 a.1 a.2.1 = RR ∧ GoodR a.2.1 ∧ a.1.length ≤ n ∧ n < a.2.2 + a.1.length) ⟨hRR, h, Nat.zero_le _, by simp⟩ ?_ ?_
    case refine_1 | refine_1 =>
      simp -implicitDefEqProofs (maxSteps := 4000000) (disch := omega) only [go_sem, go_sem_proc, dr, Nat.min_def, ↓reduceIte, ← hs1, rbx]
      rfl
    case refine_2 | refine_2 =>
      clear hs1 h hRR s
      rintro ⟨out, s, f⟩ ⟨hu, hg, hl, hf⟩
      dsimp only at hu hg hl hf ⊢
      cases f with
      | zero => omega
      | succ f =>
        rw [unrS] at hu
        by_cases hlt : out.length < n
        · rw [if_pos hlt] at hu
          have hZ0 := Zag_spec (u := 0) (by decide) (by decide)
          cases s with
          | none =>
            simp only [rnum, true_or, ↓reduceIte] at hu
            subst hu
            have hN := RNum_nils (b := true)
            simp only [rbx, outR]
            simp -implicitDefEqProofs (maxSteps := 4000000) (disch := omega) only [go_sem, go_sem_proc, dr, Nat.min_def, ↓reduceIte, hN, hZ0, Ok_nils, Bool.not_true, Bool.not_false]
          | some zs =>
            have hN1 := RNum_r hg
            obtain ⟨g1, g2, g3⟩ := rnum_good hg
            generalize rnum (some zs) = p1 at *
            obtain ⟨v1, s1⟩ := p1
            dsimp only at hN1 g1 g2 g3 hu
            cases s1 with
            | none =>
              simp only [rnum, true_or, ↓reduceIte] at hu
              subst hu
              have hN := RNum_nils (b := true)
              simp only [rbx, outR] at hN1 ⊢
              simp -implicitDefEqProofs (maxSteps := 4000000) (disch := omega) only [go_sem, go_sem_proc, dr, Nat.min_def, ↓reduceIte, hN1, hN, hZ0, Ok_nils, Bool.not_true, Bool.not_false]
            | some z1 =>
              have hN2 := RNum_r g1
              obtain ⟨g4, g5, g6⟩ := rnum_good g1
              generalize rnum (some z1) = p2 at *
              obtain ⟨v2, s2⟩ := p2
              dsimp only at hN2 g4 g5 g6 hu
              have hZ := Zag_spec g5 g6
              cases s2 with
              | none =>
                rw [if_pos (.inl rfl)] at hu
                subst hu
                simp only [rbx, outR] at hN1 hN2 ⊢
                simp -implicitDefEqProofs (maxSteps := 4000000) (disch := omega) only [go_sem, go_sem_proc, dr, Nat.min_def, ↓reduceIte, hN1, hN2, hZ, Ok_nils, Bool.not_true, Bool.not_false]
              | some z2 =>
                simp only [rbx] at hN1 hN2
                by_cases h0 : v1 = 0
                · subst h0
                  rw [if_pos (.inr (.inl rfl))] at hu
                  subst hu
                  simp only [rbx, outR]
                  simp -implicitDefEqProofs (maxSteps := 4000000) (disch := omega) only [go_sem, go_sem_proc, dr, Nat.min_def, ↓reduceIte, hN1, hN2, hZ, Ok_sl, Bool.not_true, Bool.not_false]
                · by_cases hbig : ((n - out.length : Nat) : Int) < v1
                  · rw [if_pos (.inr (.inr hbig))] at hu
                    subst hu
                    simp only [rbx, outR]
                    have h0' := eq_false h0
                    have hb : (n : Int) - out.length < v1 := by omega
                    simp -implicitDefEqProofs (maxSteps := 4000000) (disch := omega) only [go_sem, go_sem_proc, dr, Nat.min_def, ↓reduceIte, hN1, hN2, hZ, Ok_sl, Bool.not_true, Bool.not_false, h0']
                  · rw [if_neg (by rintro (h | h | h); cases h; exact h0 h; exact hbig h)] at hu
                    have h0' := eq_false h0
                    have hb : v1 ≤ (n : Int) - out.length := by omega
                    have hv1 : 1 ≤ v1 := by omega
                    have hr : repeatF 2 [.sl 1 (ints .i64 [zag v2]), .int .i64 v1] = some (.nr 2 1 (ints .i64 (List.replicate v1.toNat (zag v2)))) := repeatF_one 2 (zag v2) v1 hv1 (by omega)
                    have hlr : (List.replicate v1.toNat (zag v2)).length = v1.toNat := List.length_replicate
                    have hg2 : out.length + v1.toNat ≤ 65535 := by omega
                    simp only [rbx]
                    simp -implicitDefEqProofs (maxSteps := 4000000) (disch := omega) only [go_sem, go_sem_proc, dr, Nat.min_def, ↓reduceIte, hN1, hN2, hZ, Ok_sl, Bool.not_true, Bool.not_false, h0', hr, hlr]
                    exact ⟨(out ++ List.replicate v1.toNat (zag v2), some z2, f), rfl, ⟨hu, g4, (by rw [List.length_append, hlr]; omega : (out ++ List.replicate v1.toNat (zag v2)).length ≤ n), (by rw [List.length_append, hlr]; omega : n < f + (out ++ List.replicate v1.toNat (zag v2)).length)⟩, Nat.lt_succ_self f⟩
        · rw [if_neg hlt] at hu
          subst hu
          simp only [outR]
          cases s <;> simp only [rbx] <;> simp -implicitDefEqProofs (maxSteps := 4000000) (disch := omega) only [go_sem, go_sem_proc, dr, Nat.min_def, ↓reduceIte]
  exact key s rfl
end Go.Proofs.Ytojaklgmojmjeaa.D
