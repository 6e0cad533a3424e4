/- Columns of bytes: runs, read. -/
import Derived.Test.YtmaehmacngldbaaBcol9
namespace Go.Proofs.Ytmaehmacngldbaa.D
open Go Go.Den
set_option linter.unusedSimpArgs false
set_option linter.unusedVariables false
set_option maxRecDepth 20000
set_option maxHeartbeats 8000000
def outRB : Option (List RB') → PV
  | none => .nils
  | some l => .nr 28 1 (l.map brow)
theorem B64_append {a b : List RB'} (ha : B64 a) (hb : B64 b) : B64 (a ++ b) := fun o ho => by
  rcases List.mem_append.1 ho with h | h
  · exact ha o h
  · exact hb o h
theorem B64_rep {o : RB'} {n : Nat} (h : R8 (bz o) ∧ (bz o).length ≤ 64) : B64 (List.replicate n o) := fun x hx => by
  obtain ⟨_, rfl⟩ := List.mem_replicate.1 hx
  exact h
theorem unrB_good {n : Nat} : ∀ (f : Nat) {out : List RB'} {s : Option (List Int)}, GoodR s → B64 out → out.length ≤ n → GoodR (unrB n f out s).2 ∧ ∀ l, (unrB n f out s).1 = some l → B64 l ∧ l.length ≤ n
  | 0, out, s, h, ho, hl => ⟨h, fun l e => by injection e with e; subst e; exact ⟨ho, hl⟩⟩
  | f + 1, out, s, h, ho, hl => by
    obtain ⟨h1, h2, h3⟩ := rnumB_good h
    obtain ⟨h4, h5⟩ := rbyt_good h1
    rw [unrB]
    split
    · split
      · exact ⟨h4, fun l e => by cases e⟩
      · rename_i hc
        refine unrB_good f h4 (B64_append ho (B64_rep h5)) ?_
        rw [List.length_append, List.length_replicate]
        have : ¬ ((n - out.length : Nat) : Int) < (rnumB s).1 := fun h => hc (.inr (.inr h))
        omega
    · exact ⟨h, fun l e => by injection e with e; subst e; exact ⟨ho, hl⟩⟩
theorem unruns_spec {s : Option (List Int)} {n : Nat} (h : GoodR s) (hn : n ≤ 65535) : dw E 21 [.pb 16777216 0, .int .i64 n] [rbx s] = some (outRB (unrB n (n + 1) [] s).1, [rbx (unrB n (n + 1) [] s).2]) := by
  generalize hRR : unrB n (n + 1) [] s = RR
  have key : ∀ s1 : Option (List Int), s1 = s → dw E 21 [.pb 16777216 0, .int .i64 n] [rbx s1] = some (outRB RR.1, [rbx RR.2]) := by
    intro s1 hs1
    cases s1 <;> (refine dw_in (fn := Try.f21) rfl body21 (by simp) ?_) <;> simp -implicitDefEqProofs (maxSteps := 4000000) (disch := omega) only [go_sem, go_sem_proc, dr, Nat.min_def, ↓reduceIte, rbx]
    all_goals refine runs_any (fun a : List RB' × Option (List Int) × Nat => (⟨[(0, .pb 16777216 0), (1, .int .i64 n), (5, .h 2097472)], [(2097472, some ⟨true, .row 28 1 (a.1.map brow)⟩), (16777216, some ⟨true, .box (rbx a.2.1)⟩)], 1⟩ : St)) (fun a => a.2.2) ([], s, n + 1) (fun a => unrB n a.2.2 a.1 a.2.1 = RR ∧ GoodR a.2.1 ∧ a.1.length ≤ n ∧ n < a.2.2 + a.1.length) ⟨hRR, h, Nat.zero_le _, by simp⟩ ?_ ?_
    case refine_1 | refine_1 =>
      simp -implicitDefEqProofs (maxSteps := 4000000) (disch := omega) only [go_sem, go_sem_proc, dr, Nat.min_def, ↓reduceIte, ← hs1, rbx, List.map_nil]
    case refine_2 | refine_2 =>
      clear hs1 h hRR s
      rintro ⟨out, s, f⟩ ⟨hu, hg, hl, hf⟩
      dsimp only at hu hg hl hf ⊢
      cases f with
      | zero => omega
      | succ f =>
        rw [unrB] at hu
        have hM : (out.map brow).length = out.length := List.length_map ..
        by_cases hlt : out.length < n
        · rw [if_pos hlt] at hu
          cases s with
          | none =>
            simp only [rnumB, rbyt, true_or, ↓reduceIte] at hu
            subst hu
            have hN := RNum_nils (b := true)
            have hB := RBytes_nils (b := true) (top := 64)
            simp only [rbx, outRB]
            simp -implicitDefEqProofs (maxSteps := 4000000) (disch := omega) only [go_sem, go_sem_proc, dr, Nat.min_def, ↓reduceIte, hN, hB, hM, Ok_nils, Bool.not_true, Bool.not_false]
          | some zs =>
            have hN1 := RNum_r hg
            obtain ⟨g1, g2, g3⟩ := rnumB_good hg
            generalize rnumB (some zs) = p1 at *
            obtain ⟨v1, s1⟩ := p1
            dsimp only at hN1 g1 g2 g3 hu
            cases s1 with
            | none =>
              simp only [rbyt, true_or, ↓reduceIte] at hu
              subst hu
              have hB := RBytes_nils (b := true) (top := 64)
              simp only [rbx, outRB] at hN1 ⊢
              simp -implicitDefEqProofs (maxSteps := 4000000) (disch := omega) only [go_sem, go_sem_proc, dr, Nat.min_def, ↓reduceIte, hN1, hB, hM, Ok_nils, Bool.not_true, Bool.not_false]
            | some z1 =>
              have hN2 := RB_r g1
              obtain ⟨g4, g5, g6⟩ := rbyt_good g1
              have hsm := fun x => rbyt_some (s := some z1) (x := x)
              generalize rbyt (some z1) = p2 at *
              obtain ⟨v2, s2⟩ := p2
              dsimp only at hN2 g4 g5 g6 hu hsm
              cases s2 with
              | none =>
                rw [if_pos (.inl rfl)] at hu
                subst hu
                clear hsm
                simp only [rbx, outRB] at hN1 hN2 ⊢
                cases v2 <;> simp only [nrow] at hN2 <;> simp -implicitDefEqProofs (maxSteps := 4000000) (disch := omega) only [go_sem, go_sem_proc, dr, Nat.min_def, ↓reduceIte, hN1, hN2, hM, Ok_nils, Bool.not_true, Bool.not_false]
              | some z2 =>
                obtain ⟨y, rfl⟩ := hsm z2 rfl
                clear hsm
                simp only [rbx, nrow] at hN1 hN2
                by_cases h0 : v1 = 0
                · subst h0
                  rw [if_pos (.inr (.inl rfl))] at hu
                  subst hu
                  simp only [rbx, outRB]
                  simp -implicitDefEqProofs (maxSteps := 4000000) (disch := omega) only [go_sem, go_sem_proc, dr, Nat.min_def, ↓reduceIte, hN1, hN2, hM, Ok_sl, Bool.not_true, Bool.not_false]
                · by_cases hbig : ((n - out.length : Nat) : Int) < v1
                  · rw [if_pos (.inr (.inr hbig))] at hu
                    subst hu
                    simp only [rbx, outRB]
                    have h0' := eq_false h0
                    have hb : (n : Int) - out.length < v1 := by omega
                    simp -implicitDefEqProofs (maxSteps := 4000000) (disch := omega) only [go_sem, go_sem_proc, dr, Nat.min_def, ↓reduceIte, hN1, hN2, hM, Ok_sl, Bool.not_true, Bool.not_false, h0']
                  · rw [if_neg (by rintro (h | h | h); cases h; exact h0 h; exact hbig h)] at hu
                    have h0' := eq_false h0
                    have hb : v1 ≤ (n : Int) - out.length := by omega
                    have hv1 : 1 ≤ v1 := by omega
                    obtain ⟨m, rfl⟩ := Int.eq_ofNat_of_zero_le (a := v1) (by omega)
                    have hC : cloneF 5 1 1 [.sl 1 (ints .u8 y)] = some (.nr 5 1 (ints .u8 y)) := cloneF_bl 5 (o := some y) (by omega)
                    simp only [rbx]
                    simp -implicitDefEqProofs (maxSteps := 4000000) (disch := omega) only [go_sem, go_sem_proc, dr, Nat.min_def, ↓reduceIte, hN1, hN2, hM, Ok_sl, Bool.not_true, Bool.not_false, h0']
                    have hg2 : out.length + m ≤ 65535 := by omega
                    have ht : ((m : Nat) : Int).toNat = m := Int.toNat_natCast m
                    rw [ht] at hu
                    clear h0 hbig
                    refine runs_for (fun i : Nat => (⟨[(0, .pb 16777216 0), (1, .int .i64 n), (5, .h 2097472), (7, .h 2097600), (32, .int .u64 m), (33, .int .u64 i)], [(2097472, some ⟨true, .row 28 1 ((out ++ List.replicate i (some y)).map brow)⟩), (2097600, some ⟨true, .row 5 1 (ints .u8 y)⟩), (16777216, some ⟨true, .box [.sl 1 (ints .u8 z2), .bool false]⟩)], 1⟩ : St)) m ?_ ?_ ?_
                    · simp -implicitDefEqProofs (maxSteps := 4000000) (disch := omega) only [go_sem, go_sem_proc, dr, Nat.min_def, ↓reduceIte, List.replicate_zero, List.append_nil]
                    · intro i hi
                      have hlen : ((out ++ List.replicate i (some y)).map brow).length = out.length + i := by simp
                      have hn2 : (out ++ List.replicate (i + 1) (some y)).map brow = (out ++ List.replicate i (some y)).map brow ++ [[.sl 1 (ints .u8 y)]] := by rw [List.replicate_succ', ← List.append_assoc, List.map_append]; rfl
                      rw [hn2]
                      generalize (out ++ List.replicate i (some y)).map brow = o2 at *
                      clear hn2 hN1 hN2 hu
                      simp -implicitDefEqProofs (maxSteps := 4000000) (disch := omega) only [go_sem, go_sem_proc, dr, Nat.min_def, ↓reduceIte, hlen, hC]
                    · clear hN1 hN2 hC
                      simp -implicitDefEqProofs (maxSteps := 4000000) (disch := omega) only [go_sem, go_sem_proc, dr, Nat.min_def, ↓reduceIte]
                      exact ⟨(out ++ List.replicate m (some y), some z2, f), rfl, ⟨hu, g4, (by rw [List.length_append, List.length_replicate]; omega : (out ++ List.replicate m (some y)).length ≤ n), (by rw [List.length_append, List.length_replicate]; omega : n < f + (out ++ List.replicate m (some y)).length)⟩, Nat.lt_succ_self f⟩
        · rw [if_neg hlt] at hu
          subst hu
          simp only [outRB]
          cases s <;> simp only [rbx] <;> simp -implicitDefEqProofs (maxSteps := 4000000) (disch := omega) only [go_sem, go_sem_proc, dr, Nat.min_def, ↓reduceIte, hM]
  exact key s rfl
end Go.Proofs.Ytmaehmacngldbaa.D
