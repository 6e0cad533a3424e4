/- The document's own columns: a column told: plain, runs, a list of the unlike. -/
import Derived.Test.YtmaehmacngldbaaRef3
namespace Go.Proofs.Ytmaehmacngldbaa.D
open Go Go.Den
set_option linter.unusedSimpArgs false
set_option linter.unusedVariables false
set_option maxRecDepth 20000
set_option maxHeartbeats 8000000
def BS (L : List RB') : Prop := ∀ o ∈ L, R8 (bz o) ∧ (bz o).length ≤ 64
theorem BS_BG {L : List RB'} (h : BS L) : BG L := fun o ho => ⟨(h o ho).1, by have := (h o ho).2; omega⟩
theorem BS_get {L : List RB'} (h : BS L) {i : Nat} {o : RB'} (ho : L[i]? = some o) : R8 (bz o) ∧ (bz o).length ≤ 64 := h o (List.mem_of_getElem? ho)
theorem told74 {nums : Bool} {o : RB'} (h : R8 (bz o) ∧ (bz o).length ≤ 64) : (toldO nums o).length ≤ 74 ∧ R8 (toldO nums o) := by
  have h1 := n64_r h.1
  have h2 := zig_r' h1
  have h3 := num_len10 h2.1 h2.2
  have h4 := num_len10 (u := ((bz o).length : Int)) (by omega) (by omega)
  unfold toldO
  cases nums
  · rw [if_neg (by decide)]
    exact ⟨by rw [List.length_append]; omega, (num_r8 (by omega) (by omega)).append h.1⟩
  · rw [if_pos rfl]
    exact ⟨by omega, num_r8 h2.1 h2.2⟩
theorem toldL_len {nums : Bool} : ∀ {L : List RB'}, BS L → (toldL nums L).length ≤ 74 * L.length ∧ R8 (toldL nums L)
  | [], _ => ⟨by simp [toldL], fun z hz => by simp [toldL] at hz⟩
  | o :: r, h => by
    have h1 := told74 (nums := nums) (h o (by simp))
    have h2 := toldL_len (nums := nums) (L := r) (fun y hy => h y (by simp [hy]))
    rw [toldL_cons]
    exact ⟨by rw [List.length_append, List.length_cons]; omega, h1.2.append h2.2⟩
/-- what a column is told with -/
def rtellR : Option (List Int) → PV
  | some b => .tup [.nr 5 1 (ints .u8 b), .bool true]
  | none => .tup [.nils, .bool false]
theorem rtell_many {L : List RB'} {k : Int} {nums : Bool} (h : 65535 < L.length) : dw E 30 [.int .i64 k, .sl 1 (L.map brow), .bool nums] [] = some (.tup [.nils, .bool false], []) := by
  refine dw_in (fn := Try.f30) rfl body30 (by simp) ?_
  simp -implicitDefEqProofs (maxSteps := 4000000) (disch := omega) only [go_sem, go_sem_proc, dr, Nat.min_def, ↓reduceIte, List.length_map]
theorem rtell_other {L : List RB'} {k : Int} {nums : Bool} (h : k ≠ 1 ∧ k ≠ 2 ∧ k ≠ 3 ∧ k ≠ 4) (hl : L.length ≤ 65535) : dw E 30 [.int .i64 k, .sl 1 (L.map brow), .bool nums] [] = some (.tup [.nils, .bool false], []) := by
  obtain ⟨h1, h2, h3, h4⟩ := h
  have e1 := eq_false h1
  have e2 := eq_false h2
  have e3 := eq_false h3
  have e4 := eq_false h4
  clear h1 h2 h3 h4
  refine dw_in (fn := Try.f30) rfl body30 (by simp) ?_
  simp -implicitDefEqProofs (maxSteps := 4000000) (disch := omega) only [go_sem, go_sem_proc, dr, Nat.min_def, ↓reduceIte, List.length_map, e1, e2, e3, e4]
theorem rtell_3 {L : List RB'} (hl : L.length ≤ 65535) : dw E 30 [.int .i64 3, .sl 1 (L.map brow), .bool false] [] = some (.tup [.nils, .bool false], []) := by
  refine dw_in (fn := Try.f30) rfl body30 (by simp) ?_
  simp -implicitDefEqProofs (maxSteps := 4000000) (disch := omega) only [go_sem, go_sem_proc, dr, Nat.min_def, ↓reduceIte, List.length_map]
theorem rtell_1 {L : List RB'} {nums : Bool} (hL : BS L) (hl : L.length ≤ 65535) : dw E 30 [.int .i64 1, .sl 1 (L.map brow), .bool nums] [] = some (.tup [.nr 5 1 (ints .u8 (1 :: toldL nums L)), .bool true], []) := by
  refine dw_in (fn := Try.f30) rfl body30 (by simp) ?_
  simp -implicitDefEqProofs (maxSteps := 4000000) (disch := omega) only [go_sem, go_sem_proc, dr, Nat.min_def, ↓reduceIte, List.length_map]
  refine runs_for (fun i : Nat => (⟨[(1, .sl 1 (L.map brow)), (2, .bool nums), (8, .h 2097664), (9, .int .i64 i)], [(2097664, some ⟨true, .row 5 1 (ints .u8 (1 :: toldL nums (L.take i)))⟩)], 1⟩ : St)) L.length ?_ ?_ ?_
  · simp -implicitDefEqProofs (maxSteps := 4000000) (disch := omega) only [go_sem, go_sem_proc, dr, Nat.min_def, ↓reduceIte, List.take_zero]
    rfl
  · intro i hi
    obtain ⟨o, ho, hm, ht⟩ := take_get hi
    have ho8 := BS_get hL ho
    have hU := toldL_len (nums := nums) (L := L.take i) (fun y hy => hL y (List.mem_of_mem_take hy))
    rw [List.length_take] at hU
    have hT := told_spec (zs := 1 :: toldL nums (L.take i)) (nums := nums) (by rw [List.length_cons]; omega) ho8.1 (by omega)
    rw [ht, toldL_snoc]
    rw [List.cons_append] at hT
    generalize toldL nums (L.take i) = out at *
    generalize toldO nums o = q at *
    clear hU ht hm hL
    simp -implicitDefEqProofs (maxSteps := 4000000) (disch := omega) only [go_sem, go_sem_proc, dr, Nat.min_def, ↓reduceIte, List.length_map, List.getElem?_map, Option.map_some, ho, brow, hT]
  · simp -implicitDefEqProofs (maxSteps := 4000000) (disch := omega) only [go_sem, go_sem_proc, dr, Nat.min_def, ↓reduceIte, List.take_length, List.length_map]
theorem rnsO_len {nums : Bool} : ∀ (n : Nat) {L : List RB'}, L.length ≤ n → L.length ≤ 1000000 → BS L → (rnsO nums L).length ≤ 84 * L.length ∧ R8 (rnsO nums L)
  | _, [], _, _, _ => ⟨by simp [rnsO_nil], fun z hz => by simp [rnsO_nil] at hz⟩
  | 0, _ :: _, h, _, _ => by simp at h
  | n + 1, o :: r, h, hl, hb => by
    have h1 := told74 (nums := nums) (hb o (by simp))
    have hle := rnO_le o r
    simp only [List.length_cons] at h hl ⊢
    have h2 := rnsO_len (nums := nums) n (L := r.drop (rnO o r)) (by simp; omega) (by simp; omega) (fun y hy => hb y (by simp [List.mem_of_mem_drop hy]))
    have h3 := num_len10 (u := ((1 + rnO o r : Nat) : Int)) (by omega) (by omega)
    rw [rnsO_cons]
    refine ⟨?_, ((num_r8 (by omega) (by omega)).append h1.2).append h2.2⟩
    have h4 := h2.1
    simp only [List.length_append, List.length_drop] at h4 ⊢
    omega
theorem rtell_2 {L : List RB'} {nums : Bool} (hL : BS L) (hl : L.length ≤ 65535) : dw E 30 [.int .i64 2, .sl 1 (L.map brow), .bool nums] [] = some (.tup [.nr 5 1 (ints .u8 (2 :: rnsO nums L)), .bool true], []) := by
  have htot := rnsO_len (nums := nums) L.length (Nat.le_refl _) (by omega) hL
  refine dw_in (fn := Try.f30) rfl body30 (by simp) ?_
  simp -implicitDefEqProofs (maxSteps := 4000000) (disch := omega) only [go_sem, go_sem_proc, dr, Nat.min_def, ↓reduceIte, List.length_map]
  refine runs_any (fun a : Nat × List Int => (⟨[(1, .sl 1 (L.map brow)), (2, .bool nums), (8, .h 2097664), (10, .int .i64 a.1)], [(2097664, some ⟨true, .row 5 1 (ints .u8 (2 :: a.2))⟩)], 1⟩ : St)) (fun a => L.length - a.1) (0, []) (fun a => a.1 ≤ L.length ∧ a.2 ++ rnsO nums (L.drop a.1) = rnsO nums L) ⟨Nat.zero_le _, by simp⟩ ?_ ?_
  · simp -implicitDefEqProofs (maxSteps := 4000000) (disch := omega) only [go_sem, go_sem_proc, dr, Nat.min_def, ↓reduceIte]
  · rintro ⟨i, out⟩ ⟨hi, he⟩
    dsimp only at hi he ⊢
    by_cases hil : i < L.length
    · obtain ⟨o, ho, hm, _⟩ := take_get hil
      have ho8 := BS_get hL ho
      have hd : L.drop i = o :: L.drop (i + 1) := by rw [List.drop_eq_getElem_cons hil, (List.getElem?_eq_some_iff.1 ho).2]
      rw [hd, rnsO_cons] at he
      have hle := congrArg List.length he
      simp only [List.length_append] at hle
      have hkl := rnO_le o (L.drop (i + 1))
      have hget := fun {j : Nat} => rnO_get (x := o) (l := L.drop (i + 1)) (j := j)
      have hend := fun {y : RB'} => rnO_end (x := o) (y := y) (l := L.drop (i + 1))
      rw [List.length_drop] at hkl
      rw [List.drop_drop] at he
      generalize rnO o (L.drop (i + 1)) = k at *
      have hN := RefNum_sl (zs := 2 :: out) (u := ((1 + k : Nat) : Int)) (by rw [List.length_cons]; omega) (by omega) (by omega)
      have hn1 := num_len10 (u := ((1 + k : Nat) : Int)) (by omega) (by omega)
      have hT := told_spec (zs := 2 :: (out ++ num ((1 + k : Nat) : Int))) (nums := nums) (by rw [List.length_cons, List.length_append]; omega) ho8.1 (by omega)
      rw [List.cons_append] at hN hT
      rw [show ((1 + k : Nat) : Int) = (k : Int) + 1 by omega] at hN hT he
      generalize hq1 : num ((k : Int) + 1) = q1 at *
      generalize hq2 : toldO nums o = q2 at *
      simp -implicitDefEqProofs (maxSteps := 4000000) (disch := omega) only [go_sem, go_sem_proc, dr, Nat.min_def, ↓reduceIte, List.length_map]
      refine runs_for (fun j : Nat => (⟨[(1, .sl 1 (L.map brow)), (2, .bool nums), (8, .h 2097664), (10, .int .i64 i), (11, .int .i64 ((i : Int) + j))], [(2097664, some ⟨true, .row 5 1 (ints .u8 (2 :: out))⟩)], 1⟩ : St)) (k + 1) ?_ ?_ ?_
      · simp -implicitDefEqProofs (maxSteps := 4000000) (disch := omega) only [go_sem, go_sem_proc, dr, Nat.min_def, ↓reduceIte, Int.add_zero]
      · intro j hj
        have hyx : ∃ y, L[i + j]? = some y ∧ bz y = bz o := by
          cases j with
          | zero => exact ⟨o, ho, rfl⟩
          | succ j =>
            obtain ⟨y, hy, e⟩ := hget (j := j) (by omega)
            rw [List.getElem?_drop] at hy
            exact ⟨y, by rw [← hy]; congr 1; omega, e⟩
        obtain ⟨y, hy, e⟩ := hyx
        have hq := toU8_beq (BS_get hL hy).1 ho8.1
        rw [decide_eq_true e] at hq
        have ij : ((i : Int) + (j : Int)).toNat = i + j := by omega
        have ij2 : i + j < L.length := by omega
        clear hget hend hN hT he hle htot e hd
        simp -implicitDefEqProofs (maxSteps := 4000000) (disch := omega) only [go_sem, go_sem_proc, dr, Nat.min_def, ↓reduceIte, List.length_map, List.getElem?_map, Option.map_some, ho, hy, brow, hq, ij]
        exact ⟨by ((repeat' split) <;> (change _ = true; kernel_rfl)), by rw [Int.add_assoc]⟩
      · have hkk : ((i : Int) + ((k : Int) + 1)) - i = (k : Int) + 1 := by omega
        have hfin : (out ++ q1 ++ q2) ++ rnsO nums (L.drop (i + 1 + k)) = rnsO nums L := by rw [← he]; simp only [List.append_assoc]
        rcases hq : (L.drop (i + 1))[k]? with _ | y
        · have hkr : i + 1 + k = L.length := by
            have := List.getElem?_eq_none_iff.1 hq
            rw [List.length_drop] at this
            omega
          clear hget hend hq
          simp -implicitDefEqProofs (maxSteps := 4000000) (disch := omega) only [go_sem, go_sem_proc, dr, Nat.min_def, ↓reduceIte, List.length_map, List.getElem?_map, Option.map_some, ho, brow, hkk, hN, hT]
          exact ⟨by ((repeat' split) <;> (change _ = true; kernel_rfl)), by ((repeat' split) <;> (change _ = true; kernel_rfl)), (i + 1 + k, out ++ q1 ++ q2), by dsimp only; rw [show ((i + 1 + k : Nat) : Int) = (i : Int) + ((k : Int) + 1) by omega]; first | done | simp only [List.append_assoc], ⟨by dsimp only; omega, hfin⟩, by dsimp only; omega⟩
        · have hy0 := hend hq
          rw [List.getElem?_drop] at hq
          have hq8 := toU8_beq (BS_get hL hq).1 ho8.1
          rw [decide_eq_false hy0] at hq8
          have hlt : i + 1 + k < L.length := (List.getElem?_eq_some_iff.1 hq).1
          have ij : ((i : Int) + ((k : Int) + 1)).toNat = i + 1 + k := by omega
          clear hget hend hy0
          simp -implicitDefEqProofs (maxSteps := 4000000) (disch := omega) only [go_sem, go_sem_proc, dr, Nat.min_def, ↓reduceIte, List.length_map, List.getElem?_map, Option.map_some, ho, brow, hq, hq8, ij, hkk, hN, hT]
          exact ⟨by ((repeat' split) <;> (change _ = true; kernel_rfl)), by ((repeat' split) <;> (change _ = true; kernel_rfl)), (i + 1 + k, out ++ q1 ++ q2), by dsimp only; rw [show ((i + 1 + k : Nat) : Int) = (i : Int) + ((k : Int) + 1) by omega]; first | done | simp only [List.append_assoc], ⟨by dsimp only; omega, hfin⟩, by dsimp only; omega⟩
    · have hiL : i = L.length := by omega
      subst hiL
      rw [List.drop_length, rnsO_nil, List.append_nil] at he
      subst he
      clear htot
      simp -implicitDefEqProofs (maxSteps := 4000000) (disch := omega) only [go_sem, go_sem_proc, dr, Nat.min_def, ↓reduceIte, List.length_map]
end Go.Proofs.Ytmaehmacngldbaa.D
