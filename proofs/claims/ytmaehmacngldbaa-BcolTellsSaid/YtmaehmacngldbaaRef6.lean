/- The document's own columns: told by any kind; the best. -/
import Derived.Test.YtmaehmacngldbaaRef5
namespace Go.Proofs.Ytmaehmacngldbaa.D
open Go Go.Den
set_option linter.unusedSimpArgs false
set_option linter.unusedVariables false
set_option maxRecDepth 20000
set_option maxHeartbeats 8000000
theorem rtell_spec {L : List RB'} {k : Int} {nums : Bool} (hL : BS L) : dw E 30 [.int .i64 k, .sl 1 (L.map brow), .bool nums] [] = some (rtellR (refTell nums k L), []) := by
  unfold refTell
  by_cases hl : 65535 < L.length
  · rw [if_pos hl]
    exact rtell_many hl
  · rw [if_neg hl]
    unfold refBody
    by_cases h1 : k = 1
    · subst h1; exact rtell_1 hL (by omega)
    by_cases h2 : k = 2
    · subst h2; exact rtell_2 hL (by omega)
    by_cases h3 : k = 3
    · subst h3
      cases nums
      · exact rtell_3 (by omega)
      · exact rtell_3n hL (by omega)
    by_cases h4 : k = 4
    · subst h4; exact rtell_4 hL (by omega)
    · rw [if_neg h1, if_neg h2, if_neg h3, if_neg h4]
      exact rtell_other ⟨h1, h2, h3, h4⟩ (by omega)
theorem BG_texts {l : List Int} : BS (l.map fun x => some (tx x)) := fun o ho => by
  obtain ⟨x, _, rfl⟩ := List.mem_map.1 ho
  exact ⟨tx_R8 x, by show (tx x).length ≤ 64; rw [tx_len]; decide⟩
def bstR (nums : Bool) (L : List RB') : Nat → Option (List Int)
  | 0 => none
  | j + 1 => match refTell nums ((j : Int) + 1) L with
    | none => bstR nums L j
    | some b => match bstR nums L j with
      | none => some b
      | some o => if b.length < o.length then some b else some o
theorem rtell_len {nums : Bool} {L : List RB'} {k : Int} {b : List Int} (hL : BS L) (h : refTell nums k L = some b) : R8 b ∧ 1 ≤ b.length ∧ b.length ≤ 10000000 ∧ ∃ z, b = k :: z := by
  unfold refTell at h
  split at h
  · cases h
  · rename_i hl
    have hU := unlikeO_len L
    have hUb : BS (unlikeO L) := fun y hy => hL y (unlikeO_sub hy)
    unfold refBody at h
    split at h
    · rename_i hk
      injection h with h
      subst h
      have := toldL_len (nums := nums) hL
      refine ⟨fun z hz => ?_, by simp, by simp; omega, _, rfl⟩
      rcases List.mem_cons.1 hz with rfl | hz
      · omega
      · exact this.2 z hz
    split at h
    · injection h with h
      subst h
      have := rnsO_len (nums := nums) L.length (Nat.le_refl _) (by omega) hL
      refine ⟨fun z hz => ?_, by simp, by simp; omega, _, rfl⟩
      rcases List.mem_cons.1 hz with rfl | hz
      · omega
      · exact this.2 z hz
    split at h
    · split at h
      · injection h with h
        subst h
        unfold frO
        split
        · refine ⟨fun z hz => ?_, by simp, by simp, _, rfl⟩
          rcases List.mem_cons.1 hz with rfl | hz
          · omega
          · simp at hz
        · rename_i hn
          have hnr := numsO_r hL
          have hnn : numsO L ≠ [] := by simpa [numsO] using hn
          obtain ⟨m1, m2, m3, m4⟩ := mnmx hnr hnn
          have hz := zig_r' m1
          have hn1 := num_len10 hz.1 hz.2
          have hwl : wideO L ≤ 64 := width_le (by omega)
          have hpl := packL_length (wideO L) (farO L)
          have hfl : (farO L).length = L.length := by simp [farO, numsO]
          rw [hfl] at hpl
          have hpm : wideO L * L.length ≤ 64 * 65535 := Nat.mul_le_mul hwl (by omega)
          refine ⟨fun z hz' => ?_, by simp, by simp only [List.length_cons, List.length_append]; omega, _, rfl⟩
          rcases List.mem_cons.1 hz' with rfl | hz'
          · omega
          rcases List.mem_append.1 hz' with hz' | hz'
          · exact num_r8 hz.1 hz.2 z hz'
          rcases List.mem_cons.1 hz' with rfl | hz'
          · omega
          · exact packL_R8 _ _ z hz'
      · cases h
    split at h
    · injection h with h
      subst h
      have h1 := num_len10 (u := ((unlikeO L).length : Int)) (by omega) (by omega)
      have h2 := toldL_len (nums := nums) hUb
      have hwl : width ((unlikeO L).length - 1) ≤ 64 := width_le (by omega)
      have hpl := packL_length (width ((unlikeO L).length - 1)) (idxsO L)
      have hfl : (idxsO L).length = L.length := by simp [idxsO]
      rw [hfl] at hpl
      have hpm : width ((unlikeO L).length - 1) * L.length ≤ 64 * 65535 := Nat.mul_le_mul hwl (by omega)
      unfold dictO
      refine ⟨fun z hz' => ?_, by simp, by simp only [List.length_cons, List.length_append]; omega, _, rfl⟩
      rcases List.mem_cons.1 hz' with rfl | hz'
      · omega
      rcases List.mem_append.1 hz' with hz' | hz'
      · rcases List.mem_append.1 hz' with hz' | hz'
        · exact num_r8 (by omega) (by omega) z hz'
        · exact h2.2 z hz'
      · exact packL_R8 _ _ z hz'
    · cases h
theorem bstR_facts {nums : Bool} {L : List RB'} (hL : BS L) : ∀ j, ∀ b, bstR nums L j = some b → R8 b ∧ 1 ≤ b.length ∧ b.length ≤ 10000000
  | 0, b, h => by cases h
  | j + 1, b, h => by
    unfold bstR at h
    split at h
    · exact bstR_facts hL j b h
    · rename_i b' hb'
      obtain ⟨f1, f2, f3, _⟩ := rtell_len hL hb'
      split at h
      · injection h with h; subst h; exact ⟨f1, f2, f3⟩
      · rename_i o ho
        split at h
        · injection h with h; subst h; exact ⟨f1, f2, f3⟩
        · injection h with h; subst h; exact bstR_facts hL j o ho
def rbSt (nums : Bool) (L : List RB') (j : Nat) (o : Option (List Int)) : St := match o with
  | none => ⟨[(0, .sl 1 (L.map brow)), (1, .bool nums), (5, .nils), (6, .int .i64 ((j : Int) + 1))], [], 1⟩
  | some b => ⟨[(0, .sl 1 (L.map brow)), (1, .bool nums), (5, .h 2097472), (6, .int .i64 ((j : Int) + 1))], [(2097472, some ⟨true, .row 5 1 (ints .u8 b)⟩)], 1⟩
def nilB : Option (List Int) → PV
  | none => .nils
  | some b => .nr 5 1 (ints .u8 b)
theorem rbest_spec {L : List RB'} {nums : Bool} (hL : BS L) : dw E 26 [.sl 1 (L.map brow), .bool nums] [] = some (nilB (bstR nums L 4), []) := by
  refine dw_in (fn := Try.f26) rfl body26 (by simp) ?_
  simp -implicitDefEqProofs (maxSteps := 4000000) (disch := omega) only [go_sem, go_sem_proc, dr, Nat.min_def, ↓reduceIte]
  refine runs_for (fun j => rbSt nums L j (bstR nums L j)) 4 ?_ ?_ ?_
  · have e : bstR nums L 0 = none := rfl
    rw [e]
    simp -implicitDefEqProofs (maxSteps := 4000000) (disch := omega) only [go_sem, go_sem_proc, dr, Nat.min_def, ↓reduceIte, rbSt]
  · intro j hj
    have hT := rtell_spec (k := (j : Int) + 1) (nums := nums) hL
    have hf := bstR_facts (nums := nums) hL j
    have he : bstR nums L (j + 1) = match refTell nums ((j : Int) + 1) L with
      | none => bstR nums L j
      | some b => match bstR nums L j with
        | none => some b
        | some o => if b.length < o.length then some b else some o := rfl
    have hg := fun b => rtell_len (nums := nums) (k := (j : Int) + 1) (b := b) hL
    rw [he]
    clear he
    have hj3 : (j : Int) < 4 := by omega
    generalize refTell nums ((j : Int) + 1) L = R at *
    generalize bstR nums L j = B at *
    cases R with
    | none =>
      simp only [rtellR] at hT
      cases B with
      | none => simp only [rbSt]; clear hf hg; simp -implicitDefEqProofs (maxSteps := 4000000) (disch := omega) only [go_sem, go_sem_proc, dr, Nat.min_def, ↓reduceIte, hT]
      | some o => simp only [rbSt]; obtain ⟨f1, f2, f3⟩ := hf o rfl; clear hf hg; simp -implicitDefEqProofs (maxSteps := 4000000) (disch := omega) only [go_sem, go_sem_proc, dr, Nat.min_def, ↓reduceIte, hT]
    | some b =>
      simp only [rtellR] at hT
      obtain ⟨g1, g2, g3, _⟩ := hg b rfl
      cases B with
      | none => simp only [rbSt]; clear hf hg; simp -implicitDefEqProofs (maxSteps := 4000000) (disch := omega) only [go_sem, go_sem_proc, dr, Nat.min_def, ↓reduceIte, hT]
      | some o =>
        obtain ⟨f1, f2, f3⟩ := hf o rfl
        clear hf hg
        by_cases hlt : b.length < o.length
        · simp only [rbSt, if_pos hlt]; simp -implicitDefEqProofs (maxSteps := 4000000) (disch := omega) only [go_sem, go_sem_proc, dr, Nat.min_def, ↓reduceIte, hT]
        · simp only [rbSt, if_neg hlt]; simp -implicitDefEqProofs (maxSteps := 4000000) (disch := omega) only [go_sem, go_sem_proc, dr, Nat.min_def, ↓reduceIte, hT]
  · have hf := bstR_facts (nums := nums) hL 4
    generalize bstR nums L 4 = B at *
    cases B <;> simp only [rbSt, nilB] <;> simp -implicitDefEqProofs (maxSteps := 4000000) (disch := omega) only [go_sem, go_sem_proc, dr, Nat.min_def, ↓reduceIte]
end Go.Proofs.Ytmaehmacngldbaa.D
