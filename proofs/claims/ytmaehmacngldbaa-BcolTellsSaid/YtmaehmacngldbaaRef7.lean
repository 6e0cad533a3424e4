/- The document's own columns: the reader; one value. -/
import Derived.Test.YtmaehmacngldbaaRef6
namespace Go.Proofs.Ytmaehmacngldbaa.D
open Go Go.Den
set_option linter.unusedSimpArgs false
set_option linter.unusedVariables false
set_option maxRecDepth 20000
set_option maxHeartbeats 8000000
/-- the reader's box -/
def rs2 (s : RS) : List PV := [.sl 1 (ints .u8 s.1), .bool s.2]
def GS (s : RS) : Prop := R8 s.1 ∧ s.1.length ≤ 1000000000
theorem pnum_hi : ∀ {zs : List Int} {i : Nat} {u v : Int} {r : List Int}, R8 zs → i ≤ 9 → 0 ≤ u → u < 128 ^ i → pnum i u zs = some (v, r) → v < 18446744073709551616
  | [], _, _, _, _, _, _, _, _, h => by simp [pnum] at h
  | c :: t, i, u, v, r, hz, hi, h0, h1, h => by
    have hc := hz c (by simp)
    have ht : R8 t := fun z hz' => hz z (by simp [hz'])
    rw [pnum] at h
    split at h
    · cases h
    · rename_i hb
      split at h
      · injection h with h
        injection h with h2 h3
        have hi' : i = 0 ∨ i = 1 ∨ i = 2 ∨ i = 3 ∨ i = 4 ∨ i = 5 ∨ i = 6 ∨ i = 7 ∨ i = 8 ∨ i = 9 := by omega
        rcases hi' with rfl | rfl | rfl | rfl | rfl | rfl | rfl | rfl | rfl | rfl <;> simp only [Int.reducePow] at h1 h2 <;> omega
      · have hi' : i = 0 ∨ i = 1 ∨ i = 2 ∨ i = 3 ∨ i = 4 ∨ i = 5 ∨ i = 6 ∨ i = 7 ∨ i = 8 ∨ i = 9 := by omega
        rcases hi' with rfl | rfl | rfl | rfl | rfl | rfl | rfl | rfl | rfl | rfl
        all_goals first
          | (refine pnum_hi ht (by omega) ?_ ?_ h <;> simp only [Int.reducePow, Nat.reduceAdd] at h1 ⊢ <;> omega)
          | (exfalso; apply hb; left; omega)
theorem rnumS_good {s : RS} (h : GS s) : GS (rnumS s).2 ∧ 0 ≤ (rnumS s).1 ∧ (rnumS s).1 < 18446744073709551616 ∧ (rnumS s).2.1.length ≤ s.1.length := by
  obtain ⟨B, bad⟩ := s
  cases bad with
  | true => exact ⟨h, (by show (0 : Int) ≤ 0; decide), (by show (0 : Int) < _; decide), Nat.le_refl _⟩
  | false =>
    unfold rnumS
    dsimp only
    cases hp : pnum 0 0 B with
    | none => exact ⟨h, (by show (0 : Int) ≤ 0; decide), (by show (0 : Int) < _; decide), Nat.le_refl _⟩
    | some p =>
      obtain ⟨v, r⟩ := p
      have h1 := pnum_len hp
      exact ⟨⟨pnum_R8 hp h.1, by have := h.2; dsimp only at this ⊢; omega⟩, pnum_nonneg hp (by decide), pnum_hi h.1 (by decide) (by decide) (by decide) hp, by dsimp only; omega⟩
theorem RS_num {s : RS} (h : GS s) : dw E 51 [.pb 16777216 0] [rs2 s] = some (.int .u64 (rnumS s).1, [rs2 (rnumS s).2]) := by
  obtain ⟨B, bad⟩ := s
  cases bad with
  | true =>
    show dw E _ _ [[.sl 1 (ints .u8 B), .bool true]] = some (.int .u64 0, [[.sl 1 (ints .u8 B), .bool true]])
    refine dw_in (fn := Try.f51) rfl body51 (by simp) ?_
    simp -implicitDefEqProofs (maxSteps := 4000000) (disch := omega) only [go_sem, go_sem_proc, dr, Nat.min_def, ↓reduceIte]
    refine runs_for (fun i : Nat => (⟨[(0, .pb 16777216 0), (3, .int .u64 0), (4, .int .i64 0)], [(16777216, some ⟨true, .box [.sl 1 (ints .u8 B), .bool true]⟩)], 1⟩ : St)) 0 ?_ (fun i h => absurd h (Nat.not_lt_zero i)) ?_
    · simp -implicitDefEqProofs (maxSteps := 4000000) (disch := omega) only [go_sem, go_sem_proc, dr, Nat.min_def, ↓reduceIte]
    · simp -implicitDefEqProofs (maxSteps := 4000000) (disch := omega) only [go_sem, go_sem_proc, dr, Nat.min_def, ↓reduceIte]
  | false =>
    refine (RefRNum_sl h.1 (Nat.le_trans h.2 (by decide))).trans ?_
    unfold rnumS rs2
    dsimp only
    cases pnum 0 0 B with
    | none => rfl
    | some p => rfl
theorem rvalS_good {nums : Bool} {s : RS} (h : GS s) : GS (rvalS nums s).2 ∧ R8 (bz (rvalS nums s).1) ∧ (bz (rvalS nums s).1).length ≤ 64 := by
  obtain ⟨h1, h2, h3, _⟩ := rnumS_good h
  unfold rvalS
  cases nums
  · rw [if_neg (by decide)]
    split
    · exact ⟨h1, fun z hz => by simp [bz_none] at hz, by simp [bz_none]⟩
    · rename_i hc
      have h64 : ¬ 64 < (rnumS s).1 := fun h => hc (.inr (.inl h))
      refine ⟨⟨fun z hz => h1.1 z (List.mem_of_mem_drop hz), by have := h1.2; simp only [List.length_drop]; omega⟩, fun z hz => h1.1 z (List.mem_of_mem_take hz), ?_⟩
      rw [bz_some, List.length_take]; omega
  · rw [if_pos rfl]
    exact ⟨h1, tx_R8 _, by rw [bz_some, tx_len]; decide⟩
theorem RBytes2_spec {s : RS} (h : GS s) : dw E 70 [.pb 16777216 0, .int .i64 64] [rs2 s] = some (nilB (rvalS false s).1, [rs2 (rvalS false s).2]) := by
  have hN := RS_num h
  obtain ⟨h1, h2, h3, _⟩ := rnumS_good h
  unfold rvalS
  rw [if_neg (by decide)]
  generalize rnumS s = p at *
  obtain ⟨v, B, bad⟩ := p
  dsimp only at *
  unfold rs2 at *
  dsimp only at *
  have hBl : B.length ≤ 1000000000 := h1.2
  clear h1
  cases bad with
  | true =>
    rw [if_pos (.inl rfl)]
    simp only [nilB]
    refine dw_in (fn := Try.f70) rfl body70 (by simp) ?_
    simp -implicitDefEqProofs (maxSteps := 4000000) (disch := omega) only [go_sem, go_sem_proc, dr, Nat.min_def, ↓reduceIte, hN]
  | false =>
    by_cases hv : 64 < v
    · rw [if_pos (.inr (.inl hv))]
      simp only [nilB]
      refine dw_in (fn := Try.f70) rfl body70 (by simp) ?_
      simp -implicitDefEqProofs (maxSteps := 4000000) (disch := omega) only [go_sem, go_sem_proc, dr, Nat.min_def, ↓reduceIte, hN]
    · by_cases hl : (B.length : Int) < v
      · rw [if_pos (.inr (.inr hl))]
        simp only [nilB]
        refine dw_in (fn := Try.f70) rfl body70 (by simp) ?_
        simp -implicitDefEqProofs (maxSteps := 4000000) (disch := omega) only [go_sem, go_sem_proc, dr, Nat.min_def, ↓reduceIte, hN]
      · rw [if_neg (by rintro (h | h | h); cases h; exact hv h; exact hl h)]
        simp only [nilB]
        obtain ⟨m, rfl⟩ := Int.eq_ofNat_of_zero_le h2
        have hm : m ≤ B.length := by omega
        have htl : (B.take m).length ≤ 64 := by rw [List.length_take]; omega
        refine dw_in (fn := Try.f70) rfl body70 (by simp) ?_
        simp -implicitDefEqProofs (maxSteps := 4000000) (disch := omega) only [go_sem, go_sem_proc, dr, Nat.min_def, ↓reduceIte, hN, Int.toNat_natCast]
/-- a value as it comes back -/
def valR (nums : Bool) (o : RB') : PV := if nums then bl o else nilB o
theorem value_spec {nums : Bool} {s : RS} (h : GS s) : dw E 50 [.pb 16777216 0, .bool nums] [rs2 s] = some (valR nums (rvalS nums s).1, [rs2 (rvalS nums s).2]) := by
  cases nums with
  | false =>
    have hB := RBytes2_spec h
    generalize rvalS false s = p at *
    obtain ⟨o, B, bad⟩ := p
    unfold rs2 at *
    dsimp only at *
    have e : valR false o = nilB o := rfl
    rw [e]
    cases o <;> simp only [nilB] at hB ⊢ <;> (refine dw_in (fn := Try.f50) rfl body50 (by simp) ?_) <;> simp -implicitDefEqProofs (maxSteps := 4000000) (disch := omega) only [go_sem, go_sem_proc, dr, Nat.min_def, ↓reduceIte, hB]
  | true =>
    have hN := RS_num h
    obtain ⟨h1, h2, h3, _⟩ := rnumS_good h
    have hZ := RefZag_spec h2 h3
    have hr : -9223372036854775808 ≤ zag (rnumS s).1 ∧ zag (rnumS s).1 < 9223372036854775808 := by unfold zag; split <;> omega
    have e1 : (rvalS true s).1 = some (tx (zag (rnumS s).1)) := rfl
    have e2 : (rvalS true s).2 = (rnumS s).2 := rfl
    rw [e1, e2]
    generalize rnumS s = p at *
    obtain ⟨v, B, bad⟩ := p
    dsimp only at *
    have hT := texts_sl (l := [zag v]) (fun z hz => by rw [List.mem_singleton.1 hz]; exact hr) (by simp)
    generalize zag v = z at *
    unfold rs2 at *
    dsimp only at *
    have e3 : valR true (some (tx z)) = .sl 1 (ints .u8 (tx z)) := rfl
    have e4 : ([z].map fun x => some (tx x)).map brow = [[.sl 1 (ints .u8 (tx z))]] := rfl
    rw [e3]
    rw [e4] at hT
    generalize tx z = q at *
    refine dw_in (fn := Try.f50) rfl body50 (by simp) ?_
    simp -implicitDefEqProofs (maxSteps := 4000000) (disch := omega) only [go_sem, go_sem_proc, dr, Nat.min_def, ↓reduceIte, hN, hZ, hT]
end Go.Proofs.Ytmaehmacngldbaa.D
