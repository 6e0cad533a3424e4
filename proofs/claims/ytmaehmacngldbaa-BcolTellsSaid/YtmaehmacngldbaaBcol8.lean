/- Columns of bytes: the best kind. -/
import Derived.Test.YtmaehmacngldbaaBcol7
namespace Go.Proofs.Ytmaehmacngldbaa.D
open Go Go.Den
set_option linter.unusedSimpArgs false
set_option linter.unusedVariables false
set_option maxRecDepth 20000
set_option maxHeartbeats 8000000
theorem pickB_cases (a b : List Int) : (pickB a b = b ∧ b.length < a.length) ∨ (pickB a b = a ∧ a.length ≤ b.length) := by
  unfold pickB
  split
  · exact .inl ⟨rfl, by assumption⟩
  · exact .inr ⟨rfl, by omega⟩
def bstB (L : List RB') : Nat → List Int
  | 0 => []
  | 1 => 1 :: toldL false L
  | 2 => pickB (1 :: toldL false L) (2 :: rnsO false L)
  | 3 => pickB (1 :: toldL false L) (2 :: rnsO false L)
  | _ => pickB (pickB (1 :: toldL false L) (2 :: rnsO false L)) (4 :: dictO false L)
theorem bstB_enc {L : List RB'} (hl : L.length ≤ 65535) : bstB L 4 = refBest false L := by
  unfold refBest
  rw [if_neg (by omega)]
  rfl
theorem Tell_ok {X : PV} {k : Int} {L : List RB'} {b : List Int} (hX : IsR X L) (h : B64 L) (hl : L.length ≤ 65535) (hb : refBody false k L = some b) : dw E 15 [.int .i64 k, X] [] = some (.tup [.nr 5 1 (ints .u8 (k :: b)), .bool true], []) := by
  have hT := Tell_spec (k := k) hX (fun o ho => ⟨(h o ho).1, by have := (h o ho).2; omega⟩) (by omega)
  have e : tellRB k L = .tup [.nr 5 1 (ints .u8 (k :: b)), .bool true] := by
    unfold tellRB refTell
    rw [if_pos (shortO_iff.2 fun o ho => (h o ho).2), if_neg (by omega), hb]
    rfl
  rw [← e]
  exact hT
theorem Tell_no {X : PV} {k : Int} {L : List RB'} (hX : IsR X L) (h : ∀ o ∈ L, R8 (bz o) ∧ (bz o).length ≤ 9223372036854775807) (hl : L.length ≤ 1000000) (hb : shortO L = false ∨ refBody false k L = none) : dw E 15 [.int .i64 k, X] [] = some (.tup [.nils, .bool false], []) := by
  have hT := Tell_spec (k := k) hX h hl
  have e : tellRB k L = .tup [.nils, .bool false] := by
    unfold tellRB refTell
    rcases hb with hb | hb
    · rw [hb]; rfl
    · rw [hb]
      split <;> rename_i hq
      · split at hq
        · split at hq <;> cases hq
        · cases hq
      · rfl
  rw [← e]
  exact hT
def encStB (L : List RB') : Nat → St
  | 0 => ⟨[(0, .sl 1 (L.map brow)), (3, .nils), (4, .int .i64 1)], [], 1⟩
  | j + 1 => ⟨[(0, .sl 1 (L.map brow)), (3, .h 2097344), (4, .int .i64 ((j : Int) + 1 + 1))], [(2097344, some ⟨true, .row 5 1 (ints .u8 (bstB L (j + 1)))⟩)], 1⟩
theorem Encode_sl {L : List RB'} (h : B64 L) (hl : L.length ≤ 65535) : dw E 13 [.sl 1 (L.map brow)] [] = some (.nr 5 1 (ints .u8 (refBest false L)), []) := by
  rw [← bstB_enc hl]
  have T1 := Tell_ok (k := 1) (.inl rfl) h hl rfl
  have T2 := Tell_ok (k := 2) (.inl rfl) h hl rfl
  have T4 := Tell_ok (k := 4) (.inl rfl) h hl rfl
  have T3 := Tell_no (X := .sl 1 (L.map brow)) (k := 3) (L := L) (.inl rfl) (fun o ho => ⟨(h o ho).1, by have := (h o ho).2; omega⟩) (by omega) (.inr rfl)
  have b1 := (refBody_len (k := 1) h hl rfl).1
  have b2 := (refBody_len (k := 2) h hl rfl).1
  have b4 := (refBody_len (k := 4) h hl rfl).1
  generalize h1 : toldL false L = c1 at *
  generalize h2 : rnsO false L = c2 at *
  generalize h4 : dictO false L = c4 at *
  refine dw_in (fn := Try.f13) rfl body13 (by simp) ?_
  simp -implicitDefEqProofs (maxSteps := 4000000) (disch := omega) only [go_sem, go_sem_proc, dr, Nat.min_def, ↓reduceIte]
  refine runs_for (encStB L) 4 ?_ ?_ ?_
  · simp -implicitDefEqProofs (maxSteps := 4000000) (disch := omega) only [go_sem, go_sem_proc, dr, Nat.min_def, ↓reduceIte, encStB]
  · intro i hi
    obtain rfl | rfl | rfl | rfl : i = 0 ∨ i = 1 ∨ i = 2 ∨ i = 3 := by omega
    · clear T2 T3 T4 h hl
      simp -implicitDefEqProofs (maxSteps := 4000000) (disch := omega) only [go_sem, go_sem_proc, dr, Nat.min_def, ↓reduceIte, encStB, bstB, h1, T1, List.length_nil]
    · clear T1 T3 T4 h hl
      simp -implicitDefEqProofs (maxSteps := 4000000) (disch := omega) only [go_sem, go_sem_proc, dr, Nat.min_def, ↓reduceIte, encStB, bstB, h1, h2, T2]
      rcases pickB_cases (1 :: c1) (2 :: c2) with ⟨e1, e2⟩ | ⟨e1, e2⟩ <;> rw [e1] <;> simp only [List.length_cons] at e2
      · simp -implicitDefEqProofs (maxSteps := 4000000) (disch := omega) only [go_sem, go_sem_proc, dr, Nat.min_def, ↓reduceIte]
      · simp -implicitDefEqProofs (maxSteps := 4000000) (disch := omega) only [go_sem, go_sem_proc, dr, Nat.min_def, ↓reduceIte]
    · clear T1 T2 T4 h hl
      simp -implicitDefEqProofs (maxSteps := 4000000) (disch := omega) only [go_sem, go_sem_proc, dr, Nat.min_def, ↓reduceIte, encStB, bstB, h1, h2, T3]
    · have hb : 1 ≤ (pickB (1 :: c1) (2 :: c2)).length ∧ (pickB (1 :: c1) (2 :: c2)).length ≤ 9000001 := by
        rcases pickB_cases (1 :: c1) (2 :: c2) with ⟨e1, e2⟩ | ⟨e1, e2⟩ <;> rw [e1] <;> simp only [List.length_cons] <;> omega
      clear T1 T2 T3 h hl
      simp -implicitDefEqProofs (maxSteps := 4000000) (disch := omega) only [go_sem, go_sem_proc, dr, Nat.min_def, ↓reduceIte, encStB, bstB, h1, h2, h4]
      generalize pickB (1 :: c1) (2 :: c2) = b at *
      rcases pickB_cases b (4 :: c4) with ⟨e1, e2⟩ | ⟨e1, e2⟩ <;> rw [e1] <;> simp only [List.length_cons] at e2
      · simp -implicitDefEqProofs (maxSteps := 4000000) (disch := omega) only [go_sem, go_sem_proc, dr, Nat.min_def, ↓reduceIte, T4]
      · simp -implicitDefEqProofs (maxSteps := 4000000) (disch := omega) only [go_sem, go_sem_proc, dr, Nat.min_def, ↓reduceIte, T4]
  · simp -implicitDefEqProofs (maxSteps := 4000000) (disch := omega) only [go_sem, go_sem_proc, dr, Nat.min_def, ↓reduceIte, encStB]
theorem Encode_no {L : List RB'} (h : ∀ o ∈ L, R8 (bz o) ∧ (bz o).length ≤ 9223372036854775807) (hl : L.length ≤ 1000000) (hs : shortO L = false) : dw E 13 [.sl 1 (L.map brow)] [] = some (.nils, []) := by
  have hT := fun k : Int => Tell_no (X := .sl 1 (L.map brow)) (k := k) (L := L) (.inl rfl) h hl (.inl hs)
  generalize L.map brow = M at *
  refine dw_in (fn := Try.f13) rfl body13 (by simp) ?_
  simp -implicitDefEqProofs (maxSteps := 4000000) (disch := omega) only [go_sem, go_sem_proc, dr, Nat.min_def, ↓reduceIte]
  refine runs_for (fun i : Nat => (⟨[(0, .sl 1 M), (3, .nils), (4, .int .i64 ((i : Int) + 1))], [], 1⟩ : St)) 4 ?_ ?_ ?_
  · simp -implicitDefEqProofs (maxSteps := 4000000) (disch := omega) only [go_sem, go_sem_proc, dr, Nat.min_def, ↓reduceIte]
  · intro i hi
    have hT' := hT ((i : Int) + 1)
    simp -implicitDefEqProofs (maxSteps := 4000000) (disch := omega) only [go_sem, go_sem_proc, dr, Nat.min_def, ↓reduceIte, hT']
  · simp -implicitDefEqProofs (maxSteps := 4000000) (disch := omega) only [go_sem, go_sem_proc, dr, Nat.min_def, ↓reduceIte]
theorem Encode_nils : dw E 13 [.nils] [] = some (.nr 5 1 [[.int .u8 1]], []) := dw_of (k := 80) (by kernel_rfl)
end Go.Proofs.Ytmaehmacngldbaa.D
