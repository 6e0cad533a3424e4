/- The document's own columns of numbers are the program's. -/
import Derived.Test.YtojaklgmojmjeaaRef11
import Derived.Test.YtojaklgmojmjeaaDenR
import Derived.Test.YtojaklgmojmjeaaIcol11
namespace Go.Proofs.Ytojaklgmojmjeaa.D
open Go Go.Den
set_option linter.unusedSimpArgs false
set_option linter.unusedVariables false
set_option maxRecDepth 20000
set_option maxHeartbeats 8000000
theorem get_spec {b : List Int} {c : Int} {nums : Bool} (h8 : R8 b) (hl : b.length ≤ 100000000) : ∃ Y, dw E 29 [.sl 1 (ints .u8 b), .int .i64 c, .bool nums] [] = some (Y, []) ∧ GetR (refGet nums b c) Y := by
  by_cases hb : c < 0 ∨ 65535 < c ∨ b = []
  · refine ⟨_, get_bad hb (by omega), ?_⟩
    have : refGet nums b c = none := by
      unfold refGet
      cases b with
      | nil => rfl
      | cons k zs =>
        dsimp only
        rw [if_neg]
        rcases hb with h | h | h
        · omega
        · omega
        · cases h
    rw [this]
    rfl
  · cases b with
    | nil => exact absurd (.inr (.inr rfl)) hb
    | cons k zs =>
      obtain ⟨n, rfl⟩ := Int.eq_ofNat_of_zero_le (a := c) (by omega)
      simp only [List.length_cons] at hl
      by_cases h1 : k = 1
      · subst h1; exact get_1 h8 (by omega) (by omega)
      by_cases h2 : k = 2
      · subst h2; exact get_2 h8 (by omega) (by omega)
      by_cases h4 : k = 4
      · subst h4; exact get_4 h8 (by omega) (by omega)
      by_cases h3 : k = 3 ∧ 0 < n
      · obtain ⟨rfl, h⟩ := h3
        exact get_3 h8 (by omega) h (by omega)
      · refine get_o h8 ⟨⟨h1, h2, h4⟩, fun hk => ?_⟩ (by omega) (by omega)
        by_cases h : n = 0
        · exact h
        · exact absurd ⟨hk, by omega⟩ h3
theorem decL_r {b l : List Int} {c : Int} (h8 : R8 b) (hl : b.length ≤ 100000000) (h : decL b c = some l) : Ri64 l := by
  unfold decL at h
  split at h
  · cases h
  · rename_i k zs
    split at h
    · split at h
      · injection h with h
        subst h
        exact (rawL_good ⟨fun z hz => h8 z (by simp [hz]), by simp at hl; omega⟩).1
      · cases h
    · cases h
theorem TX_BS (l : List Int) : BS (TX l) := BG_texts
def refDecR : Option (List Int) → PV
  | none => .tup [.nr 2 1 (ints .i64 []), .bool false]
  | some l => .tup [.nr 2 1 (ints .i64 l), .bool true]
theorem RefDecode_sl {b : List Int} {c : Int} (h8 : R8 b) (hl : b.length ≤ 100000000) : dw E 17 [.sl 1 (ints .u8 b), .int .i64 c] [] = some (refDecR (decL b c), []) := by
  obtain ⟨Y, hY, hG⟩ := get_spec (c := c) (nums := true) h8 hl
  rw [refGet_dec h8 (fun l h => decL_r h8 hl h)] at hG
  cases hd : decL b c with
  | none =>
    rw [hd] at hG
    have hG : Y = .tup [.nils, .bool false] := hG
    subst hG
    unfold refDecR
    dsimp only
    refine dw_in (fn := Try.f17) rfl body17 (by simp) ?_
    simp -implicitDefEqProofs (maxSteps := 4000000) (disch := omega) only [go_sem, go_sem_proc, dr, Nat.min_def, ↓reduceIte, hY]
    refine runs_for (fun i : Nat => (⟨[(6, .nils), (7, .bool false), (8, .h 2097664), (9, .int .i64 0)], [(2097664, some ⟨true, .row 2 1 (ints .i64 [])⟩)], 1⟩ : St)) 0 ?_ (fun i h => absurd h (Nat.not_lt_zero i)) ?_
    · simp -implicitDefEqProofs (maxSteps := 4000000) (disch := omega) only [go_sem, go_sem_proc, dr, Nat.min_def, ↓reduceIte]
      rfl
    · simp -implicitDefEqProofs (maxSteps := 4000000) (disch := omega) only [go_sem, go_sem_proc, dr, Nat.min_def, ↓reduceIte]
  | some l =>
    have hll := decL_len hd
    have hlr := decL_r h8 hl hd
    rw [hd] at hG
    obtain ⟨X, hX, rfl⟩ := hG
    unfold refDecR
    dsimp only
    rcases hX with rfl | ⟨rfl, h0⟩
    · refine dw_in (fn := Try.f17) rfl body17 (by simp) ?_
      simp -implicitDefEqProofs (maxSteps := 4000000) (disch := omega) only [go_sem, go_sem_proc, dr, Nat.min_def, ↓reduceIte, hY]
      refine runs_for (fun i : Nat => (⟨[(6, .h 2097536), (7, .bool true), (8, .h 2097664), (9, .int .i64 i)], [(2097536, some ⟨true, .row 27 1 ((TX l).map brow)⟩), (2097664, some ⟨true, .row 2 1 (ints .i64 (l.take i))⟩)], 1⟩ : St)) l.length ?_ ?_ ?_
      · simp -implicitDefEqProofs (maxSteps := 4000000) (disch := omega) only [go_sem, go_sem_proc, dr, Nat.min_def, ↓reduceIte, List.take_zero]
        rfl
      · intro i hi
        obtain ⟨x, hx, hm, ht⟩ := take_get hi
        have hxr := hlr x hm
        have hg := TX_get hx
        have h6 := number64_spec (o := some (tx x)) (tx_R8 x) (by rw [bz_some, tx_len]; decide)
        rw [bz_some, n64_tx hxr] at h6
        have hol : (l.take i).length ≤ 65535 := by rw [List.length_take]; omega
        rw [ht]
        have htl := TX_len l
        generalize TX l = T at *
        generalize tx x = q at *
        generalize l.take i = out at *
        clear hY h8 hlr ht
        simp -implicitDefEqProofs (maxSteps := 4000000) (disch := omega) only [go_sem, go_sem_proc, dr, Nat.min_def, ↓reduceIte, List.length_map, htl, List.getElem?_map, Option.map_some, hg, brow, h6]
      · have htl := TX_len l
        generalize TX l = T at *
        simp -implicitDefEqProofs (maxSteps := 4000000) (disch := omega) only [go_sem, go_sem_proc, dr, Nat.min_def, ↓reduceIte, List.length_map, htl, List.take_length]
    · have hl0 : l = [] := by
        have := TX_len l
        rw [h0] at this
        exact List.length_eq_zero_iff.1 this.symm
      subst hl0
      refine dw_in (fn := Try.f17) rfl body17 (by simp) ?_
      simp -implicitDefEqProofs (maxSteps := 4000000) (disch := omega) only [go_sem, go_sem_proc, dr, Nat.min_def, ↓reduceIte, hY]
      refine runs_for (fun i : Nat => (⟨[(6, .nils), (7, .bool true), (8, .h 2097664), (9, .int .i64 0)], [(2097664, some ⟨true, .row 2 1 (ints .i64 [])⟩)], 1⟩ : St)) 0 ?_ (fun i h => absurd h (Nat.not_lt_zero i)) ?_
      · simp -implicitDefEqProofs (maxSteps := 4000000) (disch := omega) only [go_sem, go_sem_proc, dr, Nat.min_def, ↓reduceIte]
        rfl
      · simp -implicitDefEqProofs (maxSteps := 4000000) (disch := omega) only [go_sem, go_sem_proc, dr, Nat.min_def, ↓reduceIte]
theorem RefDecode_nils {c : Int} : dw E 17 [.nils, .int .i64 c] [] = some (refDecR none, []) := by
  have hg : dw E 29 [.nils, .int .i64 c, .bool true] [] = some (.tup [.nils, .bool false], []) := by
    refine dw_in (fn := Try.f29) rfl body29 (by simp) ?_
    simp -implicitDefEqProofs (maxSteps := 4000000) (disch := omega) only [go_sem, go_sem_proc, dr, Nat.min_def, ↓reduceIte]
  unfold refDecR
  dsimp only
  refine dw_in (fn := Try.f17) rfl body17 (by simp) ?_
  simp -implicitDefEqProofs (maxSteps := 4000000) (disch := omega) only [go_sem, go_sem_proc, dr, Nat.min_def, ↓reduceIte, hg]
  refine runs_for (fun i : Nat => (⟨[(6, .nils), (7, .bool false), (8, .h 2097664), (9, .int .i64 0)], [(2097664, some ⟨true, .row 2 1 (ints .i64 [])⟩)], 1⟩ : St)) 0 ?_ (fun i h => absurd h (Nat.not_lt_zero i)) ?_
  · simp -implicitDefEqProofs (maxSteps := 4000000) (disch := omega) only [go_sem, go_sem_proc, dr, Nat.min_def, ↓reduceIte]
    rfl
  · simp -implicitDefEqProofs (maxSteps := 4000000) (disch := omega) only [go_sem, go_sem_proc, dr, Nat.min_def, ↓reduceIte]
theorem bstR_enc {l : List Int} (hr : Ri64 l) (hl : l.length ≤ 65535) : bstR true (TX l) 4 = some (encL l) := by
  have h : ∀ k, refTell true k (TX l) = tellL k l := refTell_TX hr
  have h1 : tellL (((0 : Nat) : Int) + 1) l = some (1 :: zigs l) := by unfold tellL; rw [if_neg (by omega)]; rfl
  have h2 : tellL (((1 : Nat) : Int) + 1) l = some (2 :: runsL l) := by unfold tellL; rw [if_neg (by omega)]; rfl
  have h3 : tellL (((2 : Nat) : Int) + 1) l = some (3 :: frameL l) := by unfold tellL; rw [if_neg (by omega)]; rfl
  have h4 : tellL (((3 : Nat) : Int) + 1) l = some (4 :: dictL l) := by unfold tellL; rw [if_neg (by omega)]; rfl
  have e1 : bstR true (TX l) 1 = some (1 :: zigs l) := by unfold bstR; rw [h, h1]; rfl
  have e2 : bstR true (TX l) 2 = some (pick (1 :: zigs l) (2 :: runsL l)) := by
    unfold bstR; rw [h, h2, e1]; unfold pick; dsimp only; split <;> rfl
  have e3 : bstR true (TX l) 3 = some (pick (pick (1 :: zigs l) (2 :: runsL l)) (3 :: frameL l)) := by
    unfold bstR; rw [h, h3, e2]
    generalize pick (1 :: zigs l) (2 :: runsL l) = p
    unfold pick; dsimp only; split <;> rfl
  unfold bstR
  rw [h, h4, e3]
  unfold encL
  rw [if_neg (by omega)]
  generalize pick (pick (1 :: zigs l) (2 :: runsL l)) (3 :: frameL l) = p
  unfold pick; dsimp only; split <;> rfl
end Go.Proofs.Ytojaklgmojmjeaa.D
