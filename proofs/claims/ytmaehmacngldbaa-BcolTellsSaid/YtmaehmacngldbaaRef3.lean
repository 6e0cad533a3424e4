/- The document's own columns: the unlike values, rising. -/
import Derived.Test.YtmaehmacngldbaaRef2
namespace Go.Proofs.Ytmaehmacngldbaa.D
open Go Go.Den
set_option linter.unusedSimpArgs false
set_option linter.unusedVariables false
set_option maxRecDepth 20000
set_option maxHeartbeats 8000000
theorem BG_get {L : List RB'} (h : BG L) {i : Nat} {o : RB'} (ho : L[i]? = some o) : R8 (bz o) ∧ (bz o).length ≤ 1000000 := h o (List.mem_of_getElem? ho)
theorem unlike_spec {L : List RB'} (hL : BG L) (hl : L.length ≤ 1000000) : dw E 49 [.sl 1 (L.map brow)] [] = some (.nr 28 1 ((unlikeO L).map brow), []) := by
  refine dw_in (fn := Try.f49) rfl body49 (by simp) ?_
  simp -implicitDefEqProofs (maxSteps := 4000000) (disch := omega) only [go_sem, go_sem_proc, dr, Nat.min_def, ↓reduceIte]
  refine runs_for (fun i : Nat => (⟨[(0, .sl 1 (L.map brow)), (3, .h 2097344), (4, .int .i64 i)], [(2097344, some ⟨true, .row 28 1 ((unlikeO (L.take i)).map brow)⟩)], 1⟩ : St)) L.length ?_ ?_ ?_
  · simp -implicitDefEqProofs (maxSteps := 4000000) (disch := omega) only [go_sem, go_sem_proc, dr, Nat.min_def, ↓reduceIte, List.take_zero]
    rfl
  · intro i hi
    obtain ⟨o, ho, hm, ht⟩ := take_get hi
    have ho8 := BG_get hL ho
    rw [ht, unlikeO_snoc]
    have hUl : (unlikeO (L.take i)).length ≤ 1000000 := by have := unlikeO_len (L.take i); rw [List.length_take] at this; omega
    have hUg : BG (unlikeO (L.take i)) := fun y hy => hL y (List.mem_of_mem_take (unlikeO_sub hy))
    generalize unlikeO (L.take i) = U at *
    have hk0 := posO_le U (bz o)
    have hlt := fun {j : Nat} {y : RB'} => posO_lt (out := U) (x := bz o) (j := j) (o := y)
    have hend := fun {y : RB'} => posO_end (out := U) (x := bz o) (o := y)
    have hins : insO U o = if (U[posO U (bz o)]?).map bz = some (bz o) then U else U.take (posO U (bz o)) ++ o :: U.drop (posO U (bz o)) := rfl
    rw [hins]
    generalize posO U (bz o) = k0 at *
    clear hins ht hL
    have e : List.take k0 (U.map brow) ++ [[bl o]] ++ List.drop k0 (List.take U.length (U.map brow)) = (List.take k0 U ++ o :: List.drop k0 U).map brow := by
      rw [show List.take U.length (U.map brow) = U.map brow from List.take_of_length_le (by simp)]
      simp [List.map_take, List.map_drop, brow]
    simp -implicitDefEqProofs (maxSteps := 4000000) (disch := omega) only [go_sem, go_sem_proc, dr, Nat.min_def, ↓reduceIte, List.length_map]
    refine runs_any (fun k : Nat => (⟨[(0, .sl 1 (L.map brow)), (3, .h 2097344), (4, .int .i64 i), (5, .int .i64 k)], [(2097344, some ⟨true, .row 28 1 (U.map brow)⟩)], 1⟩ : St)) (fun k => U.length - k) 0 (fun k => k ≤ k0) (Nat.zero_le _) ?_ ?_
    · simp -implicitDefEqProofs (maxSteps := 4000000) (disch := omega) only [go_sem, go_sem_proc, dr, Nat.min_def, ↓reduceIte]
    · intro k hk
      by_cases hkl : k < U.length
      · obtain ⟨y, hy, _, _⟩ := take_get hkl
        have hy8 := BG_get hUg hy
        have hb := bytesLess_ltB hy8.1 ho8.1
        have hq := toU8_beq hy8.1 ho8.1
        by_cases hkk : k < k0
        · rw [hlt hkk hy] at hb
          clear hlt hend hq
          simp -implicitDefEqProofs (maxSteps := 4000000) (disch := omega) only [go_sem, go_sem_proc, dr, Nat.min_def, ↓reduceIte, List.length_map, List.getElem?_map, Option.map_some, ho, hy, brow, hb]
          exact ⟨by ((repeat' split) <;> (change _ = true; kernel_rfl)), k + 1, rfl, hkk, by omega⟩
        · obtain rfl : k = k0 := by omega
          rw [hend hy] at hb
          rw [hy, Option.map_some]
          by_cases he : bz y = bz o
          · rw [if_pos (by rw [he])]
            rw [decide_eq_true he] at hq
            clear hlt hend he
            simp -implicitDefEqProofs (maxSteps := 4000000) (disch := omega) only [go_sem, go_sem_proc, dr, Nat.min_def, ↓reduceIte, List.length_map, List.getElem?_map, Option.map_some, ho, hy, brow, hb, hq]
            exact ⟨by ((repeat' split) <;> (change _ = true; kernel_rfl)), by ((repeat' split) <;> (change _ = true; kernel_rfl))⟩
          · rw [if_neg (by intro h; injection h with h; exact he h)]
            rw [decide_eq_false he] at hq
            clear hlt hend he
            simp -implicitDefEqProofs (maxSteps := 4000000) (disch := omega) only [go_sem, go_sem_proc, dr, Nat.min_def, ↓reduceIte, List.length_map, List.getElem?_map, Option.map_some, ho, hy, brow, hb, hq]
            refine ⟨by ((repeat' split) <;> (change _ = true; kernel_rfl)), by ((repeat' split) <;> (change _ = true; kernel_rfl)), by ((repeat' split) <;> (change _ = true; kernel_rfl)), ?_⟩
            rw [e]
      · have hku : k = U.length := by omega
        obtain rfl : k = k0 := by omega
        rw [List.getElem?_eq_none (by omega), Option.map_none, if_neg (by intro h; cases h)]
        clear hlt hend
        simp -implicitDefEqProofs (maxSteps := 4000000) (disch := omega) only [go_sem, go_sem_proc, dr, Nat.min_def, ↓reduceIte, List.length_map, List.getElem?_map, Option.map_some, ho, brow]
        refine ⟨by ((repeat' split) <;> (change _ = true; kernel_rfl)), by ((repeat' split) <;> (change _ = true; kernel_rfl)), by ((repeat' split) <;> (change _ = true; kernel_rfl)), ?_⟩
        rw [e]
  · simp -implicitDefEqProofs (maxSteps := 4000000) (disch := omega) only [go_sem, go_sem_proc, dr, Nat.min_def, ↓reduceIte, List.take_length]
end Go.Proofs.Ytmaehmacngldbaa.D
