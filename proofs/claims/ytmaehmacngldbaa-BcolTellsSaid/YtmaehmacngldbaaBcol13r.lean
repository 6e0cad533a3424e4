/- Columns of bytes: the document's own. -/
import Derived.Test.YtmaehmacngldbaaBcol13
import Derived.Test.YtmaehmacngldbaaRef12g
namespace Go.Proofs.Ytmaehmacngldbaa.D
open Go Go.Den
set_option linter.unusedSimpArgs false
set_option linter.unusedVariables false
set_option maxRecDepth 20000
set_option maxHeartbeats 8000000
theorem BS_of {L : List RB'} (h : ∀ o ∈ L, R8 (bz o)) (hs : shortO L = true) : BS L := fun o ho => ⟨h o ho, shortO_iff.1 hs o ho⟩
theorem RTell_spec {k : Int} {L : List RB'} (h : ∀ o ∈ L, R8 (bz o)) (hl : L.length ≤ 1000000) : dw E 16 [.int .i64 k, .sl 1 (L.map brow)] [] = some (tellRB k L, []) := by
  have hS := short_spec hl
  unfold tellRB
  cases hs : shortO L with
  | false =>
    rw [hs] at hS
    refine dw_in (fn := Try.f16) rfl body16 (by simp) ?_
    simp -implicitDefEqProofs (maxSteps := 4000000) (disch := omega) only [go_sem, go_sem_proc, dr, Nat.min_def, ↓reduceIte, hS, Bool.not_false]
  | true =>
    rw [hs] at hS
    have hT := rtell_spec (k := k) (nums := false) (BS_of h hs)
    generalize L.map brow = M at *
    cases hq : refTell false k L <;> rw [hq] at hT <;> simp only [rtellR] at hT <;> (refine dw_in (fn := Try.f16) rfl body16 (by simp) ?_) <;> simp -implicitDefEqProofs (maxSteps := 4000000) (disch := omega) only [go_sem, go_sem_proc, dr, Nat.min_def, ↓reduceIte, hS, hT, Bool.not_true]
theorem bstR_best {L : List RB'} (hl : L.length ≤ 65535) : bstR false L 4 = some (refBest false L) := by
  have h1 : refTell false (((0 : Nat) : Int) + 1) L = some (1 :: toldL false L) := by unfold refTell; rw [if_neg (by omega)]; rfl
  have h2 : refTell false (((1 : Nat) : Int) + 1) L = some (2 :: rnsO false L) := by unfold refTell; rw [if_neg (by omega)]; rfl
  have h3 : refTell false (((2 : Nat) : Int) + 1) L = none := by unfold refTell; rw [if_neg (by omega)]; rfl
  have h4 : refTell false (((3 : Nat) : Int) + 1) L = some (4 :: dictO false L) := by unfold refTell; rw [if_neg (by omega)]; rfl
  have e1 : bstR false L 1 = some (1 :: toldL false L) := by unfold bstR; rw [h1]; rfl
  have e2 : bstR false L 2 = some (pickB (1 :: toldL false L) (2 :: rnsO false L)) := by
    unfold bstR; rw [h2, e1]; unfold pickB; dsimp only; split <;> rfl
  have e3 : bstR false L 3 = some (pickB (1 :: toldL false L) (2 :: rnsO false L)) := by
    unfold bstR; rw [h3, e2]
  unfold bstR
  rw [h4, e3]
  unfold refBest
  rw [if_neg (by omega)]
  simp only [Bool.false_eq_true, if_false]
  generalize pickB (1 :: toldL false L) (2 :: rnsO false L) = p
  unfold pickB; split <;> rfl
theorem REncode_sl {L : List RB'} (h : ∀ o ∈ L, R8 (bz o)) (hl : L.length ≤ 65535) : dw E 14 [.sl 1 (L.map brow)] [] = some (if shortO L then .nr 5 1 (ints .u8 (refBest false L)) else .nils, []) := by
  have hS := short_spec (L := L) (by omega)
  cases hs : shortO L with
  | false =>
    rw [hs] at hS
    refine dw_in (fn := Try.f14) rfl body14 (by simp) ?_
    simp -implicitDefEqProofs (maxSteps := 4000000) (disch := omega) only [go_sem, go_sem_proc, dr, Nat.min_def, ↓reduceIte, hS, Bool.not_false]
  | true =>
    rw [hs] at hS
    have hT := rbest_spec (nums := false) (BS_of h hs)
    rw [bstR_best hl] at hT
    simp only [nilB] at hT
    generalize L.map brow = M at *
    refine dw_in (fn := Try.f14) rfl body14 (by simp) ?_
    simp -implicitDefEqProofs (maxSteps := 4000000) (disch := omega) only [go_sem, go_sem_proc, dr, Nat.min_def, ↓reduceIte, hS, hT, Bool.not_true]
theorem RDecode_sl {b : List Int} {c : Int} (h8 : R8 b) (hl : b.length ≤ 100000000) : ∃ Y, dw E 17 [.sl 1 (ints .u8 b), .int .i64 c] [] = some (Y, []) ∧ GetR (decB b c) Y := by
  obtain ⟨Y, hY, hG⟩ := get_spec (c := c) (nums := false) h8 hl
  rw [refGet_decB] at hG
  refine ⟨Y, ?_, hG⟩
  cases hd : decB b c with
  | none =>
    rw [hd] at hG
    have hG : Y = .tup [.nils, .bool false] := hG
    subst hG
    refine dw_in (fn := Try.f17) rfl body17 (by simp) ?_
    simp -implicitDefEqProofs (maxSteps := 4000000) (disch := omega) only [go_sem, go_sem_proc, dr, Nat.min_def, ↓reduceIte, hY]
  | some L =>
    rw [hd] at hG
    obtain ⟨X, hX, rfl⟩ := hG
    rcases hX with rfl | ⟨rfl, rfl⟩ <;> (refine dw_in (fn := Try.f17) rfl body17 (by simp) ?_) <;> simp -implicitDefEqProofs (maxSteps := 4000000) (disch := omega) only [go_sem, go_sem_proc, dr, Nat.min_def, ↓reduceIte, hY]
theorem get_nils {c : Int} {nums : Bool} : dw E 31 [.nils, .int .i64 c, .bool nums] [] = some (.tup [.nils, .bool false], []) := by
  refine dw_in (fn := Try.f31) rfl body31 (by simp) ?_
  simp -implicitDefEqProofs (maxSteps := 4000000) (disch := omega) only [go_sem, go_sem_proc, dr, Nat.min_def, ↓reduceIte]
theorem RDecode_nils {c : Int} : dw E 17 [.nils, .int .i64 c] [] = some (.tup [.nils, .bool false], []) := by
  have hY := get_nils (c := c) (nums := false)
  refine dw_in (fn := Try.f17) rfl body17 (by simp) ?_
  simp -implicitDefEqProofs (maxSteps := 4000000) (disch := omega) only [go_sem, go_sem_proc, dr, Nat.min_def, ↓reduceIte, hY]
end Go.Proofs.Ytmaehmacngldbaa.D
