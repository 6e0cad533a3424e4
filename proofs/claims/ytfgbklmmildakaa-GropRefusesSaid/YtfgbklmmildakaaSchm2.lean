/- Rows of values: what the functions come to. -/
import Derived.Test.YtfgbklmmildakaaSchm1
namespace Go.Proofs.Ytfgbklmmildakaa.D
open Go Go.Den
set_option linter.unusedSimpArgs false
set_option linter.unusedVariables false
set_option maxRecDepth 20000
set_option maxHeartbeats 4000000
theorem zip_take {α β : Type} (f : α → β → Bool) {a : List α} {b : List β} {i : Nat} {x : α} {y : β} (hx : a[i]? = some x) (hy : b[i]? = some y) :
    (List.zipWith f (a.take (i + 1)) (b.take (i + 1))).all id = ((List.zipWith f (a.take i) (b.take i)).all id && f x y) := by
  have h1 : (a.take i).length = (b.take i).length := by
    have := (List.getElem?_eq_some_iff.1 hx).1
    have := (List.getElem?_eq_some_iff.1 hy).1
    rw [List.length_take, List.length_take]; omega
  rw [List.take_add_one, List.take_add_one, hx, hy, List.zipWith_append h1, List.all_append]
  simp
theorem zip_false {α β : Type} (f : α → β → Bool) {a : List α} {b : List β} {i : Nat} {x : α} {y : β} (hx : a[i]? = some x) (hy : b[i]? = some y) (h : f x y = false) : (List.zipWith f a b).all id = false := by
  rw [List.all_eq_false]
  exact ⟨f x y, List.mem_of_getElem? (i := i) (by rw [List.getElem?_zipWith, hx, hy]), by simp [h]⟩
theorem Fits_spec {s : List Col} {r : List Val} (hs : s.length ≤ 1000000) : dw E 25 [.agg [.sl 3 (s.map Col.pv)], .sl 4 (r.map Val.pv)] [] = some (.bool (fits s r), []) := by
  refine dw_intro (fn := Try.f25) rfl rfl (by decide) ?_
  unfold fits
  by_cases hl : r.length = s.length
  · have el : ((r.length : Int) = s.length) = True := eq_true (by omega)
    have hl' := eq_true hl
    simp -implicitDefEqProofs (maxSteps := 4000000) only [go_sem, go_sem_proc, ↓reduceIte, Nat.min_def, el, hl']
    refine runs_loop (fun i : Nat => (⟨[(1, .sl 4 (r.map Val.pv)), (14, .sl 3 (s.map Col.pv)), (15, .int .i64 s.length), (16, .int .i64 i)], [], 1⟩ : St)) (fun i => s.length - i) 0 ?_
      (fun i => i ≤ s.length ∧ (List.zipWith holds (s.take i) (r.take i)).all id = true) ⟨by omega, by simp⟩ ?_
    · simp -implicitDefEqProofs (maxSteps := 4000000) only [go_sem, go_sem_proc, ↓reduceIte, Nat.min_def]
    · rintro i ⟨hi, ht⟩
      by_cases hlt : i < s.length
      · obtain ⟨c, hc⟩ : ∃ c, s[i]? = some c := ⟨_, List.getElem?_eq_getElem hlt⟩
        obtain ⟨v, hv⟩ : ∃ v, r[i]? = some v := ⟨_, List.getElem?_eq_getElem (by omega)⟩
        have hlt' : (i : Int) < s.length := by omega
        have ei : 0 ≤ (i : Int) := by omega
        have en : ((i : Int) + 1 + 9223372036854775808) % 18446744073709551616 - 9223372036854775808 = ((i + 1 : Nat) : Int) := by omega
        cases hh : holds c v with
        | true =>
          simp -implicitDefEqProofs (maxSteps := 4000000) only [go_sem, go_sem_proc, ↓reduceIte, Nat.min_def, hlt', ei, hc, hv, Holds_spec, hh, en]
          refine ⟨by change _ = true; kernel_rfl, i + 1, ⟨by omega, ?_⟩, by omega, rfl⟩
          rw [zip_take holds hc hv, ht, hh]; rfl
        | false =>
          have hf := zip_false holds hc hv hh
          simp -implicitDefEqProofs (maxSteps := 4000000) only [go_sem, go_sem_proc, ↓reduceIte, Nat.min_def, hlt', ei, hc, hv, Holds_spec, hh, hf, hl']
          change _ = true
          kernel_rfl
      · have hlt' : ¬ (i : Int) < s.length := by omega
        rw [List.take_of_length_le (by omega), List.take_of_length_le (by omega)] at ht
        simp -implicitDefEqProofs (maxSteps := 4000000) only [go_sem, go_sem_proc, ↓reduceIte, Nat.min_def, hlt', ht, hl']
  · have el : ((r.length : Int) = s.length) = False := eq_false (by omega)
    simp -implicitDefEqProofs (maxSteps := 4000000) only [go_sem, go_sem_proc, ↓reduceIte, Nat.min_def, el, hl]
theorem SameRow_spec {a b : List Val} (hs : a.length ≤ 1000000) : dw E 22 [.sl 4 (a.map Val.pv), .sl 4 (b.map Val.pv)] [] = some (.bool (sameR a b), []) := by
  refine dw_intro (fn := Try.f22) rfl rfl (by decide) ?_
  unfold sameR
  by_cases hl : a.length = b.length
  · have el : ((a.length : Int) = b.length) = True := eq_true (by omega)
    have hl' := eq_true hl
    simp -implicitDefEqProofs (maxSteps := 4000000) only [go_sem, go_sem_proc, ↓reduceIte, Nat.min_def, el, hl']
    refine runs_loop (fun i : Nat => (⟨[(0, .sl 4 (a.map Val.pv)), (1, .sl 4 (b.map Val.pv)), (5, .int .i64 i)], [], 1⟩ : St)) (fun i => a.length - i) 0 ?_
      (fun i => i ≤ a.length ∧ (List.zipWith sameV (a.take i) (b.take i)).all id = true) ⟨by omega, by simp⟩ ?_
    · simp -implicitDefEqProofs (maxSteps := 4000000) only [go_sem, go_sem_proc, ↓reduceIte, Nat.min_def]
    · rintro i ⟨hi, ht⟩
      by_cases hlt : i < a.length
      · obtain ⟨x, hx⟩ : ∃ x, a[i]? = some x := ⟨_, List.getElem?_eq_getElem hlt⟩
        obtain ⟨y, hy⟩ : ∃ y, b[i]? = some y := ⟨_, List.getElem?_eq_getElem (by omega)⟩
        have hlt' : (i : Int) < a.length := by omega
        have ei : 0 ≤ (i : Int) := by omega
        have en : ((i : Int) + 1 + 9223372036854775808) % 18446744073709551616 - 9223372036854775808 = ((i + 1 : Nat) : Int) := by omega
        cases hh : sameV x y with
        | true =>
          simp -implicitDefEqProofs (maxSteps := 4000000) only [go_sem, go_sem_proc, ↓reduceIte, Nat.min_def, hlt', ei, hx, hy, SameVal_spec, hh, en]
          refine ⟨by change _ = true; kernel_rfl, i + 1, ⟨by omega, ?_⟩, by omega, rfl⟩
          rw [zip_take sameV hx hy, ht, hh]; rfl
        | false =>
          have hf := zip_false sameV hx hy hh
          simp -implicitDefEqProofs (maxSteps := 4000000) only [go_sem, go_sem_proc, ↓reduceIte, Nat.min_def, hlt', ei, hx, hy, SameVal_spec, hh, hf, hl']
          change _ = true
          kernel_rfl
      · have hlt' : ¬ (i : Int) < a.length := by omega
        rw [List.take_of_length_le (by omega), List.take_of_length_le (by omega)] at ht
        simp -implicitDefEqProofs (maxSteps := 4000000) only [go_sem, go_sem_proc, ↓reduceIte, Nat.min_def, hlt', ht, hl']
  · have el : ((a.length : Int) = b.length) = False := eq_false (by omega)
    simp -implicitDefEqProofs (maxSteps := 4000000) only [go_sem, go_sem_proc, ↓reduceIte, Nat.min_def, el, hl]
end Go.Proofs.Ytfgbklmmildakaa.D
