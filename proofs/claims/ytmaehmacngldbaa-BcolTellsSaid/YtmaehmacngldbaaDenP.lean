/- Den: columns of bytes in plain words: how they are told, and how they are read. No program in sight. -/
import Derived.Test.YtmaehmacngldbaaDenB2
set_option linter.unusedVariables false
set_option linter.unusedSimpArgs false
namespace Go.Den
open Go Go.RowKit

/-! ### the unlike ones -/
theorem LeB.lt {a b : List Int} (h : LeB a b) (hne : a ≠ b) : ltB a b = true := by
  cases h1 : ltB a b with
  | true => rfl
  | false => exact absurd (ltB_total h1 h) hne
theorem LeB.trans_lt {a b c : List Int} (h : LeB a b) (h2 : ltB b c = true) : ltB a c = true := by
  by_cases e : a = b
  · rw [e]; exact h2
  · exact ltB_trans (h.lt e) h2
theorem cpB_sorted : ∀ (l : List (List Int)) (p : Option (List Int)), l.Pairwise LeB → (∀ q, p = some q → ∀ y ∈ l, LeB q y) →
    (keptQ (fun a b => decide (a = b)) p l).Pairwise (fun x y => ltB x y = true) ∧ ∀ q, p = some q → ∀ y ∈ keptQ (fun a b => decide (a = b)) p l, ltB q y = true
  | [], p, _, _ => by cases p <;> simp [keptQ]
  | x :: r, none, h, _ => by
    rw [List.pairwise_cons] at h
    obtain ⟨h1, h2⟩ := cpB_sorted r (some x) h.2 (fun q hq y hy => by injection hq with hq; subst hq; exact h.1 y hy)
    simp only [keptQ]
    exact ⟨List.pairwise_cons.2 ⟨fun y hy => h2 x rfl y hy, h1⟩, fun q hq => by cases hq⟩
  | x :: r, some p, h, hp => by
    rw [List.pairwise_cons] at h
    have hpx : LeB p x := hp p rfl x (by simp)
    obtain ⟨h1, h2⟩ := cpB_sorted r (some x) h.2 (fun q hq y hy => by injection hq with hq; subst hq; exact h.1 y hy)
    simp only [keptQ]
    by_cases e : x = p
    · subst e
      simp only [decide_true, if_true]
      exact ⟨h1, fun q hq y hy => by injection hq with hq; subst hq; exact h2 x rfl y hy⟩
    · simp only [e, decide_false, Bool.false_eq_true, if_false]
      have hlt := hpx.lt (fun he => e he.symm)
      refine ⟨List.pairwise_cons.2 ⟨fun y hy => h2 x rfl y hy, h1⟩, fun q hq y hy => ?_⟩
      injection hq with hq
      subst hq
      rcases List.mem_cons.1 hy with rfl | hy
      · exact hlt
      · exact ltB_trans hlt (h2 x rfl y hy)
theorem cpB_mem : ∀ (l : List (List Int)) (p : Option (List Int)) (x : List Int), x ∈ keptQ (fun a b => decide (a = b)) p l → x ∈ l
  | [], p, x, h => by cases p <;> simp [keptQ] at h
  | y :: r, none, x, h => by
    simp only [keptQ, List.mem_cons] at h
    rcases h with rfl | h
    · simp
    · simp [cpB_mem r _ x h]
  | y :: r, some p, x, h => by
    simp only [keptQ] at h
    split at h
    · simp [cpB_mem r _ x h]
    · rcases List.mem_cons.1 h with rfl | h
      · simp
      · simp [cpB_mem r _ x h]
theorem cpB_has : ∀ (l : List (List Int)) (p : Option (List Int)) (x : List Int), x ∈ l → p = some x ∨ x ∈ keptQ (fun a b => decide (a = b)) p l
  | [], p, x, h => by simp at h
  | y :: r, none, x, h => by
    simp only [keptQ]
    rcases List.mem_cons.1 h with rfl | h
    · exact .inr (by simp)
    · rcases cpB_has r (some y) x h with e | e
      · injection e with e; subst e; exact .inr (by simp)
      · exact .inr (by simp [e])
  | y :: r, some p, x, h => by
    simp only [keptQ]
    by_cases e : y = p
    · subst e
      simp only [decide_true, if_true]
      rcases List.mem_cons.1 h with rfl | h
      · exact .inl rfl
      · exact cpB_has r (some y) x h
    · simp only [e, decide_false, Bool.false_eq_true, if_false]
      rcases List.mem_cons.1 h with rfl | h
      · exact .inr (by simp)
      · rcases cpB_has r (some y) x h with e1 | e1
        · injection e1 with e1; subst e1; exact .inr (by simp)
        · exact .inr (by simp [e1])
def uniqB (L : List RB') : List (List Int) := cpL (sortL (L.map bz))
theorem uniqB_sorted (L : List RB') : (uniqB L).Pairwise fun x y => ltB x y = true := (cpB_sorted _ none (sortL_sorted _) (fun q hq => by cases hq)).1
theorem uniqB_mem {L : List RB'} {x : List Int} : x ∈ uniqB L ↔ ∃ o ∈ L, bz o = x := by
  unfold uniqB cpL
  constructor
  · intro h
    have := (sortL_perm _).mem_iff.1 (cpB_mem _ _ _ h)
    simpa using this
  · intro h
    have : x ∈ sortL (L.map bz) := (sortL_perm _).mem_iff.2 (by simpa using h)
    rcases cpB_has _ none x this with e | e
    · cases e
    · exact e
theorem uniqB_eq (L : List RB') : (unlikeO L).map bz = uniqB L := by
  refine SB_unique ?_ (uniqB_sorted L) (fun x => ?_)
  · exact List.pairwise_map.2 (unlikeO_sorted L)
  · rw [uniqB_mem, ← unlikeO_mem L x]
    simp
theorem uniqB_len (L : List RB') : (uniqB L).length = (unlikeO L).length := by rw [← uniqB_eq, List.length_map]
/-! ### the place among them -/
def lbB (u : List (List Int)) (x : List Int) : Nat := (u.takeWhile fun y => ltB y x).length
theorem lbB_le (u : List (List Int)) (x : List Int) : lbB u x ≤ u.length := (List.takeWhile_sublist _).length_le
theorem lbB_lt {u : List (List Int)} {x : List Int} (hs : u.Pairwise fun x y => ltB x y = true) {h : Nat} {y : List Int} (hy : u[h]? = some y) : ltB y x = true ↔ h < lbB u x := by
  induction u generalizing h with
  | nil => simp at hy
  | cons z r ih =>
    rw [List.pairwise_cons] at hs
    unfold lbB at ih ⊢
    rw [List.takeWhile_cons]
    cases h with
    | zero =>
      simp at hy
      subst hy
      cases hz : ltB z x <;> simp
    | succ h =>
      have hy' : r[h]? = some y := by simpa using hy
      have hzy := hs.1 y (List.mem_of_getElem? hy')
      cases hz : ltB z x with
      | true => simp only [if_true, List.length_cons, Nat.add_lt_add_iff_right]; exact ih hs.2 hy'
      | false =>
        simp only [Bool.false_eq_true, if_false, List.length_nil, Nat.not_lt_zero, iff_false]
        intro hlt
        rw [ltB_trans hzy hlt] at hz
        cases hz
theorem lbB_mem {u : List (List Int)} {x : List Int} (hs : u.Pairwise fun x y => ltB x y = true) (hx : x ∈ u) : u[lbB u x]? = some x := by
  obtain ⟨i, hi⟩ := List.getElem?_of_mem hx
  have h1 : ¬ i < lbB u x := fun h => by
    have := (lbB_lt hs hi).2 h
    rw [ltB_irrefl] at this
    cases this
  have h2 : ¬ lbB u x < i := fun h => by
    have hlt : lbB u x < u.length := Nat.lt_trans h (List.getElem?_eq_some_iff.1 hi).1
    have h3 := List.pairwise_iff_getElem.1 hs (lbB u x) i hlt (List.getElem?_eq_some_iff.1 hi).1 h
    rw [(List.getElem?_eq_some_iff.1 hi).2] at h3
    have := (lbB_lt hs (List.getElem?_eq_getElem hlt)).1 h3
    omega
  rw [show lbB u x = i by omega]
  exact hi
theorem lbB_idx {L : List RB'} {x : List Int} (hx : ∃ o ∈ L, bz o = x) : lbB (uniqB L) x = idxO (unlikeO L) x := by
  have hm := lbB_mem (uniqB_sorted L) (uniqB_mem.2 hx)
  rw [← uniqB_eq, List.getElem?_map, Option.map_eq_some_iff] at hm
  obtain ⟨o, ho, hb⟩ := hm
  rw [uniqB_eq] at ho
  refine (idxO_is ho hb fun j hj y hy he => ?_).symm
  have h1 : (uniqB L)[j]? = some (bz y) := by rw [← uniqB_eq, List.getElem?_map, hy]; rfl
  have := (lbB_lt (x := x) (uniqB_sorted L) h1).2 hj
  rw [he, ltB_irrefl] at this
  cases this
end Go.Den
