/- Columns of bytes: a column told; the best. -/
import Derived.Test.YtmaehmacngldbaaBcol6
namespace Go.Proofs.Ytmaehmacngldbaa.D
open Go Go.Den
set_option linter.unusedSimpArgs false
set_option linter.unusedVariables false
set_option maxRecDepth 20000
set_option maxHeartbeats 8000000
def bigO (o : RB') : Bool := decide (64 < (bz o).length)
theorem big_spec {o : RB'} (h : (bz o).length ≤ 9223372036854775807) : dw E 28 [bl o] [] = some (.bool (bigO o), []) := by
  unfold bigO
  obtain ⟨n, hn⟩ : ∃ n : Int, ((bz o).length : Int) = n := ⟨_, rfl⟩
  have e : decide (64 < (bz o).length) = decide ((64 : Int) < n) := decide_eq_decide.2 (by omega)
  rw [e]
  cases o with
  | none =>
    have : n = 0 := by rw [← hn]; rfl
    subst this
    refine dw_in (fn := Try.f28) rfl body28 (by simp) ?_
    simp -implicitDefEqProofs (maxSteps := 4000000) (disch := omega) only [go_sem, go_sem_proc, dr, Nat.min_def, ↓reduceIte]
  | some b =>
    have hb : (b.length : Int) = n := hn
    refine dw_in (fn := Try.f28) rfl body28 (by simp) ?_
    simp -implicitDefEqProofs (maxSteps := 4000000) (disch := omega) only [go_sem, go_sem_proc, dr, Nat.min_def, ↓reduceIte, hb]
theorem IF_none {L : List RB'} (h : ∀ o ∈ L, (bz o).length ≤ 64) (hl : L.length ≤ 65535) : dw E 39 [.sl 1 (L.map brow), .fn 28 []] [] = some (.int .i64 (-1), []) := by
  have hg : ∀ {i : Nat} {o : RB'}, L[i]? = some o → (L.map brow)[i]? = some [bl o] := fun ho => by simp [ho, brow]
  have hM : (L.map brow).length = L.length := List.length_map ..
  generalize L.map brow = M at *
  refine dw_in (fn := Try.f39) rfl body39 (by simp) ?_
  simp -implicitDefEqProofs (maxSteps := 4000000) (disch := omega) only [go_sem, go_sem_proc, dr, Nat.min_def, ↓reduceIte, hM]
  refine runs_for (fun i : Nat => (⟨[(0, .sl 1 M), (1, .fn 28 []), (7, .int .i64 L.length), (8, .int .i64 i)], [], 1⟩ : St)) L.length ?_ ?_ ?_
  · simp -implicitDefEqProofs (maxSteps := 4000000) (disch := omega) only [go_sem, go_sem_proc, dr, Nat.min_def, ↓reduceIte]
  · intro i hi
    obtain ⟨o, ho, hm, ht⟩ := take_get hi
    have h64 := h o hm
    have hB := big_spec (o := o) (by omega)
    have e : bigO o = false := by unfold bigO; exact decide_eq_false (by omega)
    rw [e] at hB
    have hgo := hg ho
    clear h ht hg
    simp -implicitDefEqProofs (maxSteps := 4000000) (disch := omega) only [go_sem, go_sem_proc, dr, Nat.min_def, ↓reduceIte, hgo, hM, hB]
  · simp -implicitDefEqProofs (maxSteps := 4000000) (disch := omega) only [go_sem, go_sem_proc, dr, Nat.min_def, ↓reduceIte]
theorem IF_some {L : List RB'} {j : Nat} {oj : RB'} (hj : L[j]? = some oj) (hbig : bigO oj = true) (hlow : ∀ i, i < j → ∀ o, L[i]? = some o → bigO o = false) (hz : ∀ o ∈ L, (bz o).length ≤ 9223372036854775807) (hl : L.length ≤ 65535) :
    dw E 39 [.sl 1 (L.map brow), .fn 28 []] [] = some (.int .i64 j, []) := by
  have hg : ∀ {i : Nat} {o : RB'}, L[i]? = some o → (L.map brow)[i]? = some [bl o] := fun ho => by simp [ho, brow]
  have hM : (L.map brow).length = L.length := List.length_map ..
  have hjl : j < L.length := (List.getElem?_eq_some_iff.1 hj).1
  generalize L.map brow = M at *
  refine dw_in (fn := Try.f39) rfl body39 (by simp) ?_
  simp -implicitDefEqProofs (maxSteps := 4000000) (disch := omega) only [go_sem, go_sem_proc, dr, Nat.min_def, ↓reduceIte, hM]
  refine runs_any (fun i : Nat => (⟨[(0, .sl 1 M), (1, .fn 28 []), (7, .int .i64 L.length), (8, .int .i64 i)], [], 1⟩ : St)) (fun i => L.length - i) 0 (fun i => i ≤ j) (Nat.zero_le _) ?_ ?_
  · simp -implicitDefEqProofs (maxSteps := 4000000) (disch := omega) only [go_sem, go_sem_proc, dr, Nat.min_def, ↓reduceIte]
  · intro i hij
    obtain ⟨o, ho, hm, ht⟩ := take_get (l := L) (i := i) (by omega)
    have hB := big_spec (o := o) (hz o hm)
    have hgo := hg ho
    have hiL : i < L.length := by omega
    by_cases hc : i = j
    · subst hc
      rw [hj] at ho
      injection ho with ho
      subst ho
      rw [hbig] at hB
      clear hlow hz ht hg
      simp -implicitDefEqProofs (maxSteps := 4000000) (disch := omega) only [go_sem, go_sem_proc, dr, Nat.min_def, ↓reduceIte, hgo, hM, hB]
    · rw [hlow i (by omega) o ho] at hB
      clear hlow hz ht hg
      simp -implicitDefEqProofs (maxSteps := 4000000) (disch := omega) only [go_sem, go_sem_proc, dr, Nat.min_def, ↓reduceIte, hgo, hM, hB]
      exact ⟨i + 1, rfl, by omega, by omega⟩
theorem first_big : ∀ {L : List RB'}, shortO L = false → ∃ (j : Nat) (oj : RB'), L[j]? = some oj ∧ bigO oj = true ∧ ∀ i, i < j → ∀ o, L[i]? = some o → bigO o = false
  | [], h => by cases h
  | x :: r, h => by
    by_cases hx : bigO x = true
    · exact ⟨0, x, rfl, hx, fun i hi => absurd hi (Nat.not_lt_zero i)⟩
    · have hx : bigO x = false := by simpa using hx
      have hr : shortO r = false := by
        unfold shortO at h ⊢
        rw [List.all_cons, Bool.and_eq_false_iff] at h
        rcases h with h | h
        · unfold bigO at hx
          have := of_decide_eq_false hx
          exact absurd (of_decide_eq_false h) (by omega)
        · exact h
      obtain ⟨j, oj, h1, h2, h3⟩ := first_big hr
      refine ⟨j + 1, oj, by simpa using h1, h2, fun i hi o ho => ?_⟩
      cases i with
      | zero => simp at ho; subst ho; exact hx
      | succ i => exact h3 i (by omega) o (by simpa using ho)
theorem shortO_iff {L : List RB'} : shortO L = true ↔ ∀ o ∈ L, (bz o).length ≤ 64 := by simp [shortO]
theorem IF_nils : dw E 39 [.nils, .fn 28 []] [] = some (.int .i64 (-1), []) := dw_of (k := 60) (by kernel_rfl)
theorem CF_spec {X : PV} {L : List RB'} (hX : IsR X L) (hz : ∀ o ∈ L, (bz o).length ≤ 9223372036854775807) (hl : L.length ≤ 65535) : dw E 27 [X, .fn 28 []] [] = some (.bool (!shortO L), []) := by
  cases hs : shortO L with
  | true =>
    have hI : dw E 39 [X, .fn 28 []] [] = some (.int .i64 (-1), []) := by
      rcases hX with rfl | ⟨rfl, rfl⟩
      · exact IF_none (shortO_iff.1 hs) hl
      · exact IF_nils
    rcases hX with rfl | ⟨rfl, rfl⟩ <;> (refine dw_in (fn := Try.f27) rfl body27 (by simp) ?_) <;> simp -implicitDefEqProofs (maxSteps := 4000000) (disch := omega) only [go_sem, go_sem_proc, dr, Nat.min_def, ↓reduceIte, hI, Bool.not_true]
  | false =>
    obtain ⟨j, oj, h1, h2, h3⟩ := first_big hs
    rcases hX with rfl | ⟨rfl, rfl⟩
    · have hI := IF_some h1 h2 h3 hz hl
      refine dw_in (fn := Try.f27) rfl body27 (by simp) ?_
      simp -implicitDefEqProofs (maxSteps := 4000000) (disch := omega) only [go_sem, go_sem_proc, dr, Nat.min_def, ↓reduceIte, hI, Bool.not_false]
    · simp at h1
def tellRB (k : Int) (L : List RB') : PV := match (if shortO L then refTell false k L else none) with
  | some b => .tup [.nr 5 1 (ints .u8 b), .bool true]
  | none => .tup [.nils, .bool false]
theorem refBody_len {k : Int} {L : List RB'} {b : List Int} (h : B64 L) (hl : L.length ≤ 65535) (hb : refBody false k L = some b) : b.length ≤ 9000000 ∧ 1 ≤ k ∧ k ≤ 4 := by
  unfold refBody at hb
  split at hb
  · injection hb with hb; subst hb
    have := toldLB_len h
    exact ⟨by omega, by omega, by omega⟩
  split at hb
  · injection hb with hb; subst hb
    have := (rnsB_len L.length (Nat.le_refl _) (by omega) h).1
    exact ⟨by omega, by omega, by omega⟩
  split at hb
  · simp at hb
  split at hb
  · injection hb with hb; subst hb
    have h1 := unlikeO_len L
    have h2 := toldLB_len (L := unlikeO L) (h.sub fun x hx => unlikeO_sub hx)
    have h3 := num_len10 (u := ((unlikeO L).length : Int)) (by omega) (by omega)
    have hw : width ((unlikeO L).length - 1) ≤ 64 := width_le (by omega)
    have hpl := packL_length (width ((unlikeO L).length - 1)) (idxsO L)
    have hil : (idxsO L).length = L.length := by simp [idxsO]
    rw [hil] at hpl
    have hpm : width ((unlikeO L).length - 1) * L.length ≤ 64 * 65535 := Nat.mul_le_mul hw hl
    unfold dictO
    refine ⟨by simp only [List.length_append]; omega, by omega, by omega⟩
  · cases hb
theorem Tell_spec {X : PV} {k : Int} {L : List RB'} (hX : IsR X L) (h : ∀ o ∈ L, R8 (bz o) ∧ (bz o).length ≤ 9223372036854775807) (hl : L.length ≤ 1000000) : dw E 15 [.int .i64 k, X] [] = some (tellRB k L, []) := by
  unfold tellRB refTell
  by_cases h6 : 65535 < L.length
  · rw [if_pos h6]
    rcases hX with rfl | ⟨rfl, rfl⟩
    · cases shortO L <;> (refine dw_in (fn := Try.f15) rfl body15 (by simp) ?_) <;> simp -implicitDefEqProofs (maxSteps := 4000000) (disch := omega) only [go_sem, go_sem_proc, dr, Nat.min_def, ↓reduceIte, List.length_map]
    · simp at h6
  · rw [if_neg h6]
    have hC := CF_spec hX (fun o ho => (h o ho).2) (by omega)
    cases hs : shortO L with
    | false =>
      rw [hs] at hC
      rcases hX with rfl | ⟨rfl, rfl⟩ <;> (refine dw_in (fn := Try.f15) rfl body15 (by simp) ?_) <;> simp -implicitDefEqProofs (maxSteps := 4000000) (disch := omega) only [go_sem, go_sem_proc, dr, Nat.min_def, ↓reduceIte, hC, List.length_map, Bool.not_false]
    | true =>
      rw [hs] at hC
      have h64 : B64 L := fun o ho => ⟨(h o ho).1, shortO_iff.1 hs o ho⟩
      have hB := body_spec (k := k) hX h64 (by omega)
      cases hb : refBody false k L with
      | none =>
        rw [hb] at hB
        rcases hX with rfl | ⟨rfl, rfl⟩ <;> (refine dw_in (fn := Try.f15) rfl body15 (by simp) ?_) <;> simp -implicitDefEqProofs (maxSteps := 4000000) (disch := omega) only [go_sem, go_sem_proc, dr, Nat.min_def, ↓reduceIte, hC, hB, List.length_map, Bool.not_true, Option.map_none]
      | some b =>
        obtain ⟨hbl, hk1, hk4⟩ := refBody_len h64 (by omega) hb
        rw [hb] at hB
        have e1 : k % 256 = k := by omega
        clear hb h64
        rcases hX with rfl | ⟨rfl, rfl⟩ <;> (refine dw_in (fn := Try.f15) rfl body15 (by simp) ?_) <;> simp -implicitDefEqProofs (maxSteps := 4000000) (disch := omega) only [go_sem, go_sem_proc, dr, Nat.min_def, ↓reduceIte, hC, hB, List.length_map, Bool.not_true, Option.map_some, e1, List.singleton_append]
end Go.Proofs.Ytmaehmacngldbaa.D
