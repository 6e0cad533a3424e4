/- Columns of bytes: reading. -/
import Derived.Test.YtmaehmacngldbaaBcol8
import Derived.Test.YtmaehmacngldbaaDenR2
namespace Go.Proofs.Ytmaehmacngldbaa.D
open Go Go.Den
set_option linter.unusedSimpArgs false
set_option linter.unusedVariables false
set_option maxRecDepth 20000
set_option maxHeartbeats 8000000
/-- what bytes come to, at most 64 -/
def readB64 : Option (Int × List Int) → PV × List (List PV)
  | some (n, r) => if n ≤ r.length ∧ n ≤ 64 then (.nr 5 1 (ints .u8 (r.take n.toNat)), [[.sl 1 (ints .u8 (r.drop n.toNat)), .bool false]]) else (.nils, [[.nils, .bool true]])
  | none => (.nils, [[.nils, .bool true]])
theorem RB64_sl {zs : List Int} (hz : R8 zs) (hl : zs.length ≤ 1000000000000) : dw E 33 [.pb 16777216 0, .int .i64 64] [[.sl 1 (ints .u8 zs), .bool false]] = some (readB64 (pnum 0 0 zs)) := by
  refine dw_intro (fn := Try.f33) rfl rfl (by simp) ?_
  cases hp : pnum 0 0 zs with
  | none => simp -implicitDefEqProofs (maxSteps := 4000000) only [go_sem, go_sem_proc, ↓reduceIte, Nat.min_def, RNum_sl hz hl, hp, readN, readB64, fail_nils]
  | some x =>
    obtain ⟨n, r⟩ := x
    have hr : r.length ≤ zs.length := Nat.le_of_lt (pnum_len hp)
    have hn : 0 ≤ n := pnum_nonneg hp (by decide)
    have e1 : (r.length : Int) % 18446744073709551616 = r.length := by omega
    by_cases h1 : n ≤ r.length
    · have e2 : ¬ (r.length : Int) < n := by omega
      by_cases h2 : n ≤ 64
      · have e3 : ¬ 64 < n := by omega
        have e4 : (r.take n.toNat).length * 2 ≤ 70368744177664 := by rw [List.length_take]; omega
        simp -implicitDefEqProofs (maxSteps := 4000000) only [go_sem, go_sem_proc, ↓reduceIte, Nat.min_def, RNum_sl hz hl, hp, readN, readB64, fail_sl, e1, e2, e3, hn, h1, h2, cloneF_sl 5 1 (r.take n.toNat) e4]
      · have e3 : 64 < n := by omega
        simp -implicitDefEqProofs (maxSteps := 4000000) only [go_sem, go_sem_proc, ↓reduceIte, Nat.min_def, RNum_sl hz hl, hp, readN, readB64, fail_sl, e1, e2, e3, h2]
    · have e2 : (r.length : Int) < n := by omega
      simp -implicitDefEqProofs (maxSteps := 4000000) only [go_sem, go_sem_proc, ↓reduceIte, Nat.min_def, RNum_sl hz hl, hp, readN, readB64, fail_sl, e1, e2, h1]
theorem pnum_lt : ∀ {zs : List Int} {i : Nat} {u v : Int} {r : List Int}, R8 zs → i ≤ 9 → 0 ≤ u → u < 128 ^ i → pnum i u zs = some (v, r) → v < 18446744073709551616
  | [], _, _, _, _, _, _, _, _, h => by simp [pnum] at h
  | c :: t, i, u, v, r, hz, hi, h0, h1, h => by
    have hc := hz c (by simp)
    have ht : R8 t := fun z hz' => hz z (by simp [hz'])
    rw [pnum] at h
    split at h
    · cases h
    · rename_i hb
      split at h
      · injection h with h
        injection h with h2 h3
        have hi' : i = 0 ∨ i = 1 ∨ i = 2 ∨ i = 3 ∨ i = 4 ∨ i = 5 ∨ i = 6 ∨ i = 7 ∨ i = 8 ∨ i = 9 := by omega
        rcases hi' with rfl | rfl | rfl | rfl | rfl | rfl | rfl | rfl | rfl | rfl <;> simp only [Int.reducePow] at h1 h2 <;> omega
      · have hi' : i = 0 ∨ i = 1 ∨ i = 2 ∨ i = 3 ∨ i = 4 ∨ i = 5 ∨ i = 6 ∨ i = 7 ∨ i = 8 ∨ i = 9 := by omega
        rcases hi' with rfl | rfl | rfl | rfl | rfl | rfl | rfl | rfl | rfl | rfl
        all_goals first
          | (refine pnum_lt ht (by omega) ?_ ?_ h <;> simp only [Int.reducePow, Nat.reduceAdd] at h1 ⊢ <;> omega)
          | (exfalso; apply hb; left; omega)
/-- a reader's box -/
def rbx : Option (List Int) → List PV
  | none => [.nils, .bool true]
  | some zs => [.sl 1 (ints .u8 zs), .bool false]
def GoodR : Option (List Int) → Prop
  | none => True
  | some zs => R8 zs ∧ zs.length ≤ 1000000000
theorem rnumB_good {s : Option (List Int)} (h : GoodR s) : GoodR (rnumB s).2 ∧ 0 ≤ (rnumB s).1 ∧ (rnumB s).1 < 18446744073709551616 := by
  cases s with
  | none => exact ⟨trivial, by decide, by decide⟩
  | some zs =>
    unfold rnumB
    dsimp only
    cases hp : pnum 0 0 zs with
    | none => exact ⟨trivial, by decide, by decide⟩
    | some p =>
      obtain ⟨v, r⟩ := p
      have h1 := pnum_len hp
      exact ⟨⟨pnum_R8 hp h.1, by have := h.2; omega⟩, pnum_nonneg hp (by decide), pnum_lt h.1 (by decide) (by decide) (by decide) hp⟩
theorem RNum_r {s : Option (List Int)} (h : GoodR s) : dw E 34 [.pb 16777216 0] [rbx s] = some (.int .u64 (rnumB s).1, [rbx (rnumB s).2]) := by
  cases s with
  | none => exact RNum_nils
  | some zs =>
    refine (RNum_sl h.1 (by have := h.2; omega)).trans ?_
    unfold rnumB
    dsimp only
    cases pnum 0 0 zs with
    | none => rfl
    | some p => rfl
/-- bytes that were read -/
def nrow : RB' → PV
  | none => .nils
  | some zs => .nr 5 1 (ints .u8 zs)
theorem RB_r {s : Option (List Int)} (h : GoodR s) : dw E 33 [.pb 16777216 0, .int .i64 64] [rbx s] = some (nrow (rbyt s).1, [rbx (rbyt s).2]) := by
  cases s with
  | none => exact RBytes_nils
  | some zs =>
    refine (RB64_sl h.1 (by have := h.2; omega)).trans ?_
    unfold rbyt readB64
    dsimp only
    cases pnum 0 0 zs with
    | none => rfl
    | some p =>
      obtain ⟨n, r⟩ := p
      dsimp only
      split <;> rfl
theorem rbyt_good {s : Option (List Int)} (h : GoodR s) : GoodR (rbyt s).2 ∧ R8 (bz (rbyt s).1) ∧ (bz (rbyt s).1).length ≤ 64 := by
  have hn : R8 (bz none) := fun z hz => by simp [bz] at hz
  cases s with
  | none => exact ⟨trivial, hn, by decide⟩
  | some zs =>
    unfold rbyt
    dsimp only
    cases hp : pnum 0 0 zs with
    | none => exact ⟨trivial, hn, by decide⟩
    | some p =>
      obtain ⟨n, r⟩ := p
      dsimp only
      have h1 := pnum_len hp
      have h8 := pnum_R8 hp h.1
      split
      · rename_i hc
        refine ⟨⟨fun z hz => h8 z (List.mem_of_mem_drop hz), ?_⟩, fun z hz => h8 z (List.mem_of_mem_take hz), ?_⟩
        · have := h.2; rw [List.length_drop]; omega
        · show (r.take n.toNat).length ≤ 64
          rw [List.length_take]; omega
      · exact ⟨trivial, hn, by decide⟩
theorem rbyt_some {s : Option (List Int)} {x : List Int} (h : (rbyt s).2 = some x) : ∃ y, (rbyt s).1 = some y := by
  unfold rbyt at h ⊢
  split at h
  · cases h
  · split at h
    · cases h
    · split at h
      · rename_i hc; simp only [hc, and_self, ↓reduceIte]; exact ⟨_, rfl⟩
      · cases h
theorem unpB_good {s : Option (List Int)} (h : GoodR s) : ∀ j, GoodR (unpB j s).2 ∧ B64 (unpB j s).1 ∧ (unpB j s).1.length = j
  | 0 => ⟨h, fun z hz => by simp [unpB] at hz, rfl⟩
  | j + 1 => by
    obtain ⟨h1, h2, h3⟩ := unpB_good h j
    obtain ⟨h4, h5, h6⟩ := rbyt_good h1
    refine ⟨h4, fun z hz => ?_, by simp [unpB, h3]⟩
    simp only [unpB, List.mem_append, List.mem_singleton] at hz
    rcases hz with hz | rfl
    · exact h2 z hz
    · exact ⟨h5, h6⟩
theorem unplain_spec {s : Option (List Int)} {n : Nat} (h : GoodR s) (hn : n ≤ 65535) : dw E 20 [.pb 16777216 0, .int .i64 n] [rbx s] = some (.nr 28 1 ((unpB n s).1.map brow), [rbx (unpB n s).2]) := by
  have key : ∀ s1 : Option (List Int), s1 = s → dw E 20 [.pb 16777216 0, .int .i64 n] [rbx s1] = some (.nr 28 1 ((unpB n s).1.map brow), [rbx (unpB n s).2]) := by
    intro s1 hs1
    have hR : GoodR s1 := hs1 ▸ h
    cases s1 <;> (refine dw_in (fn := Try.f20) rfl body20 (by simp) ?_) <;> simp -implicitDefEqProofs (maxSteps := 4000000) (disch := omega) only [go_sem, go_sem_proc, dr, Nat.min_def, ↓reduceIte, rbx]
    all_goals refine runs_for (fun i : Nat => (⟨[(0, .pb 16777216 0), (5, .h 2097472), (6, .int .i64 n), (7, .int .i64 i)], [(2097472, some ⟨true, .row 28 1 ((unpB i s).1.map brow)⟩), (16777216, some ⟨true, .box (rbx (unpB i s).2)⟩)], 1⟩ : St)) n ?_ (fun i hi => ?_) ?_
    case refine_1 | refine_1 =>
      simp -implicitDefEqProofs (maxSteps := 4000000) (disch := omega) only [go_sem, go_sem_proc, dr, Nat.min_def, ↓reduceIte, unpB, ← hs1, rbx, List.map_nil]
    case refine_2 | refine_2 =>
      obtain ⟨g1, g2, g3⟩ := unpB_good h i
      have hN := RB_r g1
      have e1 : (unpB (i + 1) s).1 = (unpB i s).1 ++ [(rbyt (unpB i s).2).1] := rfl
      have e2 : (unpB (i + 1) s).2 = (rbyt (unpB i s).2).2 := rfl
      rw [e1, e2, List.map_append]
      have hl : (unpB i s).1.length ≤ 65535 := by omega
      have hM : ((unpB i s).1.map brow).length = (unpB i s).1.length := List.length_map ..
      generalize (unpB i s).1.map brow = out at *
      generalize (unpB i s).1.length = ol at *
      generalize (unpB i s).2 = s2 at *
      generalize (rbyt s2).1 = v at *
      generalize (rbyt s2).2 = s3 at *
      clear g1 g2 e1 e2 h hR hs1
      cases s2 <;> cases s3 <;> cases v <;> simp only [rbx, nrow] at hN ⊢
      all_goals simp -implicitDefEqProofs (maxSteps := 4000000) (disch := omega) only [go_sem, go_sem_proc, dr, Nat.min_def, ↓reduceIte, hN, hM, List.map_cons, List.map_nil, brow]
      all_goals rfl
    case refine_3 | refine_3 =>
      generalize (unpB n s).1.map brow = out at *
      generalize (unpB n s).2 = s2 at *
      clear h hR hs1
      cases s2 <;> simp only [rbx] <;> simp -implicitDefEqProofs (maxSteps := 4000000) (disch := omega) only [go_sem, go_sem_proc, dr, Nat.min_def, ↓reduceIte]
  exact key s rfl
end Go.Proofs.Ytmaehmacngldbaa.D
