/- The best kind. -/
import Derived.Test.YtojaklgmojmjeaaIcol4
namespace Go.Proofs.Ytojaklgmojmjeaa.D
open Go Go.Den
set_option linter.unusedSimpArgs false
set_option linter.unusedVariables false
set_option maxRecDepth 20000
set_option maxHeartbeats 8000000
def cand (l : List Int) (j : Nat) : List Int := ((j : Int) + 1) :: (bodyL ((j : Int) + 1) l).getD []
def bst (l : List Int) : Nat → List Int
  | 0 => []
  | 1 => cand l 0
  | j + 2 => pick (bst l (j + 1)) (cand l (j + 1))
theorem bst_enc {l : List Int} (hl : l.length ≤ 65535) : bst l 4 = encL l := by
  unfold encL
  rw [if_neg (by omega)]
  rfl
theorem pick_cases (a b : List Int) : (pick a b = b ∧ b.length < a.length) ∨ (pick a b = a ∧ a.length ≤ b.length) := by
  unfold pick
  split
  · exact .inl ⟨rfl, by assumption⟩
  · exact .inr ⟨rfl, by omega⟩
theorem body_some {l : List Int} {j : Nat} (hj : j < 4) : bodyL ((j : Int) + 1) l = some ((bodyL ((j : Int) + 1) l).getD []) := by
  obtain rfl | rfl | rfl | rfl : j = 0 ∨ j = 1 ∨ j = 2 ∨ j = 3 := by omega
  all_goals rfl
theorem cand_facts {l : List Int} {j : Nat} (h : Ri64 l) (hl : l.length ≤ 65535) (hj : j < 4) : tellR ((j : Int) + 1) l = .tup [.nr 5 1 (ints .u8 (cand l j)), .bool true] ∧ 1 ≤ (cand l j).length ∧ (cand l j).length ≤ 3000001 ∧ R8 (cand l j) := by
  have hb := body_some (l := l) hj
  obtain ⟨h1, h2, h3, h4⟩ := body_len h hl hb
  refine ⟨?_, by simp [cand], by simp [cand]; omega, fun z hz => ?_⟩
  · unfold tellR tellL
    rw [if_neg (by omega), hb]
    rfl
  · rcases List.mem_cons.1 hz with rfl | hz
    · omega
    · exact h2 z hz
theorem bst_facts {l : List Int} (h : Ri64 l) (hl : l.length ≤ 65535) : ∀ j, j < 4 → 1 ≤ (bst l (j + 1)).length ∧ (bst l (j + 1)).length ≤ 3000001 ∧ R8 (bst l (j + 1))
  | 0, _ => (cand_facts h hl (by decide)).2
  | j + 1, hj => by
    have h1 := bst_facts h hl j (by omega)
    have h2 := (cand_facts h hl hj).2
    show 1 ≤ (pick _ _).length ∧ _
    change _ ∧ (pick _ _).length ≤ _ ∧ R8 (pick _ _)
    rcases pick_cases (bst l (j + 1)) (cand l (j + 1)) with ⟨e, _⟩ | ⟨e, _⟩ <;> rw [e]
    · exact h2
    · exact h1
def encSt (l : List Int) : Nat → St
  | 0 => ⟨[(0, .sl 1 (ints .i64 l)), (3, .nils), (4, .int .i64 1)], [], 1⟩
  | j + 1 => ⟨[(0, .sl 1 (ints .i64 l)), (3, .h 2097344), (4, .int .i64 ((j : Int) + 1 + 1))], [(2097344, some ⟨true, .row 5 1 (ints .u8 (bst l (j + 1)))⟩)], 1⟩
theorem encSt_zero (l : List Int) : encSt l 0 = ⟨[(0, .sl 1 (ints .i64 l)), (3, .nils), (4, .int .i64 1)], [], 1⟩ := rfl
theorem encSt_one (l : List Int) : encSt l (0 + 1) = ⟨[(0, .sl 1 (ints .i64 l)), (3, .h 2097344), (4, .int .i64 2)], [(2097344, some ⟨true, .row 5 1 (ints .u8 (cand l 0))⟩)], 1⟩ := rfl
theorem encSt_succ (l : List Int) (j : Nat) : encSt l (j + 1) = ⟨[(0, .sl 1 (ints .i64 l)), (3, .h 2097344), (4, .int .i64 ((j : Int) + 1 + 1))], [(2097344, some ⟨true, .row 5 1 (ints .u8 (bst l (j + 1)))⟩)], 1⟩ := rfl
theorem encSt_next (l : List Int) (j : Nat) : encSt l (j + 1 + 1) = ⟨[(0, .sl 1 (ints .i64 l)), (3, .h 2097344), (4, .int .i64 ((j : Int) + 1 + 1 + 1))], [(2097344, some ⟨true, .row 5 1 (ints .u8 (pick (bst l (j + 1)) (cand l (j + 1))))⟩)], 1⟩ := rfl
theorem Encode_sl {l : List Int} (h : Ri64 l) (hl : l.length ≤ 65535) : dw E 11 [.sl 1 (ints .i64 l)] [] = some (.nr 5 1 (ints .u8 (encL l)), []) := by
  rw [← bst_enc hl]
  refine dw_in (fn := Try.f11) rfl body11 (by simp) ?_
  simp -implicitDefEqProofs (maxSteps := 4000000) (disch := omega) only [go_sem, go_sem_proc, dr, Nat.min_def, ↓reduceIte]
  refine runs_for (encSt l) 4 ?_ ?_ ?_
  · simp -implicitDefEqProofs (maxSteps := 4000000) (disch := omega) only [go_sem, go_sem_proc, dr, Nat.min_def, ↓reduceIte, encSt_zero]
  · intro i hi
    obtain ⟨hc, hc1, hc2, _⟩ := cand_facts h hl hi
    have hT := Tell_spec (k := (i : Int) + 1) (.inl rfl) h (by omega)
    rw [hc] at hT
    clear hc
    cases i with
    | zero =>
      rw [encSt_zero, encSt_one]
      generalize cand l 0 = c at *
      have hT' : dw E 12 [.int .i64 1, .sl 1 (ints .i64 l)] [] = some (.tup [.nr 5 1 (ints .u8 c), .bool true], []) := hT
      simp -implicitDefEqProofs (maxSteps := 4000000) (disch := omega) only [go_sem, go_sem_proc, dr, Nat.min_def, ↓reduceIte, hT', List.length_nil]
    | succ j =>
      obtain ⟨b1, b2, _⟩ := bst_facts h hl j (by omega)
      rw [encSt_next, encSt_succ]
      generalize cand l (j + 1) = c at *
      generalize bst l (j + 1) = b at *
      rw [show ((j + 1 : Nat) : Int) + 1 = (j : Int) + 1 + 1 by omega] at hT
      rcases pick_cases b c with ⟨e1, e2⟩ | ⟨e1, e2⟩ <;> rw [e1]
      · clear h hl e1
        simp -implicitDefEqProofs (maxSteps := 4000000) (disch := omega) only [go_sem, go_sem_proc, dr, Nat.min_def, ↓reduceIte, hT]
      · clear h hl e1
        simp -implicitDefEqProofs (maxSteps := 4000000) (disch := omega) only [go_sem, go_sem_proc, dr, Nat.min_def, ↓reduceIte, hT]
  · rw [encSt_succ]
    simp -implicitDefEqProofs (maxSteps := 4000000) (disch := omega) only [go_sem, go_sem_proc, dr, Nat.min_def, ↓reduceIte]
end Go.Proofs.Ytojaklgmojmjeaa.D
