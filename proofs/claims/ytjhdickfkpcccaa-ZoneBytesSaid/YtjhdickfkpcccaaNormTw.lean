/- The form of a form. -/
import Derived.Test.YtjhdickfkpcccaaNormKeys
namespace Go.Proofs.Ytjhdickfkpcccaa.D
open Go Go.Den
set_option linter.unusedSimpArgs false
set_option linter.unusedVariables false
set_option maxRecDepth 20000
set_option maxHeartbeats 8000000
theorem still_still (p : Prd) : p.still.still = p.still := by
  induction p using Prd.ind with
  | h k c o v n l ih =>
    rw [still_mk, still_mk, List.map_map]
    congr 1
    exact List.map_congr_left fun q hq => ih q hq
def AllQ (Φ : Prd → Prop) (x : Al × Bool) : Prop := ∀ c ∈ x.1, ∀ q ∈ c.2, Φ q
theorem AllQ.either {Φ : Prd → Prop} {a b : Al × Bool} (ha : AllQ Φ a) (hb : AllQ Φ b) : AllQ Φ (eitherN a b) := fun c hc => by
  rcases List.mem_append.1 hc with hc | hc
  · exact ha c hc
  · exact hb c hc
theorem AllQ.both {Φ : Prd → Prop} {a b : Al × Bool} (ha : AllQ Φ a) (hb : AllQ Φ b) : AllQ Φ (bothN a b) := by
  unfold bothN
  split
  · intro c hc q hq
    simp only [crossN, List.mem_flatMap, List.mem_map] at hc
    obtain ⟨x, hx, y, hy, rfl⟩ := hc
    rcases List.mem_append.1 hq with hq | hq
    · exact ha x hx q hq
    · exact hb y hy q hq
  · intro c hc; cases hc
theorem AllQ.fold {Φ : Prd → Prop} {all : Bool} : ∀ (xs : List (Al × Bool)) (acc : Al × Bool), AllQ Φ acc → (∀ y ∈ xs, AllQ Φ y) → AllQ Φ (xs.foldl (if all then bothN else eitherN) acc) := by
  intro xs
  induction xs with
  | nil => intro acc h _; exact h
  | cons y r ih =>
    intro acc h hy
    rw [List.foldl_cons]
    refine ih _ ?_ fun z hz => hy z (List.mem_cons_of_mem _ hz)
    cases all
    · exact h.either (hy y List.mem_cons_self)
    · exact h.both (hy y List.mem_cons_self)
theorem AllQ.list {Φ : Prd → Prop} {all : Bool} {xs : List (Al × Bool)} (h : ∀ y ∈ xs, AllQ Φ y) : AllQ Φ (listN all xs) := by
  unfold listN
  refine AllQ.fold xs _ ?_ h
  cases all
  · intro c hc; cases hc
  · intro c hc q hq; simp at hc; subst hc; cases hq
/-- comparisons, and questions for none, have no list -/
inductive Wf : Prd → Prop where
  | mk {k c o : Int} {v : Val} {n : Bool} {l : List Prd} : (k = 2 ∨ k = 3 → l = []) → (∀ q ∈ l, Wf q) → Wf (.mk k c o v n l)
theorem leafN_Wf (s : List Col) (n k : Int) : Wf (leafN s n k) := by
  unfold leafN
  split
  · exact .mk (fun _ => rfl) (by simp)
  split
  · exact .mk (fun _ => rfl) (by simp)
  · exact .mk (fun _ => rfl) (by simp)
theorem predN_Wf (s : List Col) (l : List Int) : ∀ (d i : Nat), Wf (predN s l d i)
  | 0, i => by rw [predN]; exact leafN_Wf _ _ _
  | 1, i => by rw [predN]; exact leafN_Wf _ _ _
  | d + 2, i => by
    rw [predN]
    split
    · rename_i h
      refine .mk (fun h => by omega) fun q hq => ?_
      obtain ⟨j, _, rfl⟩ := List.mem_map.1 hq
      exact predN_Wf s l (d + 1) _
    split
    · refine .mk (fun h => by omega) fun q hq => ?_
      simp at hq; subst hq
      exact predN_Wf s l (d + 1) _
    · exact leafN_Wf _ _ _
structure Atom (q : Prd) : Prop where
  st : q.still = q
  fm : formN false q = ([(false, [q])], true)
  ct : cnt q ≤ 2
theorem cnt_still (p : Prd) : cnt p.still = cnt p := by
  induction p using Prd.ind with
  | h k c o v n l ih =>
    rw [still_mk, cnt_mk, cnt_mk]
    congr 1
    induction l with
    | nil => rfl
    | cons a r ih2 =>
      rw [List.map_cons, cnts_cons, cnts_cons, ih a List.mem_cons_self, ih2 fun q hq => ih q (List.mem_cons_of_mem _ hq)]
theorem atom_cmp (c o : Int) (v : Val) (n : Bool) : Atom (Prd.mk 2 c o v n []).still := by
  refine ⟨still_still _, ?_, by rw [cnt_still, cnt_mk, cnts_nil]; omega⟩
  rw [still_mk, form_mk, if_neg (by decide), if_pos rfl, still_mk]
  rfl
theorem atom_null (c o : Int) (v : Val) (n : Bool) : Atom (Prd.mk 3 c o v n []).still := by
  refine ⟨still_still _, ?_, by rw [cnt_still, cnt_mk, cnts_nil]; omega⟩
  rw [still_mk, form_mk, if_neg (by decide), if_neg (by decide), if_pos rfl, if_neg (by decide), still_mk]
  rfl
theorem atom_not (c o : Int) (v : Val) (n : Bool) : Atom (notP (Prd.mk 3 c o v n [])).still := by
  refine ⟨still_still _, ?_, ?_⟩
  · unfold notP
    rw [still_mk, form_mk, if_neg (by decide), if_neg (by decide), if_neg (by decide), if_neg (by decide), if_neg (by decide), if_pos rfl]
    simp only [List.map_cons, List.map_nil, still_still]
    rw [still_mk, form_mk, if_neg (by decide), if_neg (by decide), if_pos rfl]
    simp only [Bool.not_false, if_true, notP, still_mk, List.map_cons, List.map_nil]
    rfl
  · rw [cnt_still, notP, cnt_mk, cnts_cons, cnts_nil, cnt_still, cnt_mk, cnts_nil]; omega
theorem form_atoms {p : Prd} (h : Wf p) (not : Bool) : AllQ Atom (formN not p) := by
  induction p using Prd.ind generalizing not with
  | h k c o v n l ih =>
    obtain ⟨hl, hq⟩ := h
    have ih := fun q hm => ih q hm (hq q hm)
    rw [form_mk]
    split
    · cases not
      · intro c hc q hq; simp at hc; subst hc; cases hq
      · intro c hc; cases hc
    split
    · rename_i _ h2
      rw [hl (.inl h2)]
      intro c hc q hq; simp at hc; subst hc; simp at hq; subst hq
      exact atom_cmp _ _ _ _
    split
    · rename_i _ _ h3
      rw [hl (.inr h3)]
      intro c hc q hq; simp at hc; subst hc; simp at hq; subst hq
      cases not
      · exact atom_null _ _ _ _
      · exact atom_not _ _ _ _
    split
    · refine AllQ.list fun y hy => ?_
      obtain ⟨q, hq, rfl⟩ := List.mem_map.1 hy
      exact ih q hq not
    split
    · refine AllQ.list fun y hy => ?_
      obtain ⟨q, hq, rfl⟩ := List.mem_map.1 hy
      exact ih q hq not
    split
    · cases l with
      | nil => intro c hc; cases hc
      | cons q r => exact ih q List.mem_cons_self _
    · intro c hc; cases hc
theorem list_len {all : Bool} {xs : List (Al × Bool)} : (listN all xs).2 = true → (listN all xs).1.length ≤ 32 := by
  have key : ∀ (xs : List (Al × Bool)) (acc : Al × Bool), (acc.2 = true → acc.1.length ≤ 32) → (xs.foldl (if all then bothN else eitherN) acc).2 = true → (xs.foldl (if all then bothN else eitherN) acc).1.length ≤ 32 := by
    intro xs
    induction xs with
    | nil => intro acc h; exact h
    | cons y r ih =>
      intro acc h
      rw [List.foldl_cons]
      refine ih _ ?_
      cases all
      · simp only [Bool.false_eq_true, if_false, eitherN, Bool.and_eq_true, decide_eq_true_eq]
        intro h; have := h.2; omega
      · simp only [if_true, bothN]
        split
        · rename_i h
          simp only [Bool.and_eq_true, decide_eq_true_eq, ← Int.natCast_mul] at h
          intro _
          rw [crossN_len]; have := h.2; omega
        · intro h; cases h
  unfold listN
  refine key xs _ ?_
  cases all
  · intro _; simp
  · intro _; simp
theorem form_len {p : Prd} (not : Bool) : (formN not p).2 = true → (formN not p).1.length ≤ 32 := by
  induction p using Prd.ind generalizing not with
  | h k c o v n l ih =>
    rw [form_mk]
    split
    · cases not <;> simp
    split
    · simp
    split
    · simp
    split
    · exact list_len
    split
    · exact list_len
    split
    · cases l with
      | nil => intro h; cases h
      | cons q r => exact ih q List.mem_cons_self _
    · intro h; cases h
/-- all of some things -/
theorem and_atoms : ∀ (c acc : List Prd), (∀ q ∈ c, Atom q) → acc.length + c.length ≤ 32 → (c.map (formN false)).foldl bothN ([(false, acc)], true) = ([(false, acc ++ c)], true) := by
  intro c
  induction c with
  | nil => intro acc _ _; simp
  | cons q r ih =>
    intro acc h hl
    rw [List.map_cons, List.foldl_cons, (h q List.mem_cons_self).fm]
    have e : bothN ([(false, acc)], true) ([(false, [q])], true) = ([(false, acc ++ [q])], true) := by
      simp only [List.length_cons] at hl
      unfold bothN
      rw [if_pos (by simp)]
      simp only [crossN, List.flatMap_cons, List.flatMap_nil, List.map_cons, List.map_nil, List.append_nil]
      congr 1
      simp [okLen]; omega
    rw [e, ih _ (fun x hx => h x (List.mem_cons_of_mem _ hx)) (by simp only [List.length_append, List.length_cons, List.length_nil] at hl ⊢; omega), List.append_assoc]
    rfl
theorem and_form {c : List Prd} (k0 c0 o0 : Int) (v : Val) (n : Bool) (hk : k0 = 4) (h : ∀ q ∈ c, Atom q) (hl : c.length ≤ 32) : ∃ b, formN false (.mk k0 c0 o0 v n c) = ([(b, c)], true) := by
  subst hk
  rw [form_mk, if_neg (by decide), if_neg (by decide), if_neg (by decide), if_pos rfl]
  unfold listN
  simp only [Bool.not_false, if_true]
  cases c with
  | nil => exact ⟨true, rfl⟩
  | cons q r =>
    refine ⟨false, ?_⟩
    rw [List.map_cons, List.foldl_cons, (h q List.mem_cons_self).fm]
    have e : bothN ([(true, [])], true) ([(false, [q])], true) = ([(false, [q])], true) := by rfl
    rw [e, and_atoms r [q] (fun x hx => h x (List.mem_cons_of_mem _ hx)) (by simp only [List.length_cons, List.length_nil] at hl ⊢; omega)]
    rfl
theorem or_form : ∀ (ps : List Prd) (A acc : Al), ps.length = A.length → (∀ i (hi : i < ps.length) (hj : i < A.length), ∃ b, formN false ps[i] = ([(b, A[i].2)], true)) → acc.length + A.length ≤ 32 →
    ∃ B : Al, (ps.map (formN false)).foldl eitherN (acc, true) = (acc ++ B, true) ∧ B.map (·.2) = A.map (·.2) := by
  intro ps
  induction ps with
  | nil =>
    intro A acc hl _ _
    cases A with
    | nil => exact ⟨[], by simp, rfl⟩
    | cons => simp at hl
  | cons p r ih =>
    intro A acc hl h hb
    cases A with
    | nil => simp at hl
    | cons a A =>
      obtain ⟨b, hb1⟩ := h 0 (by simp) (by simp)
      simp only [List.getElem_cons_zero] at hb1
      simp only [List.length_cons] at hb hl
      rw [List.map_cons, List.foldl_cons, hb1]
      have e : eitherN (acc, true) ([(b, a.2)], true) = (acc ++ [(b, a.2)], true) := by
        unfold eitherN
        simp only [Bool.and_self, Bool.true_and, Prod.mk.injEq, true_and, decide_eq_true_eq, List.length_append, List.length_cons, List.length_nil]
        omega
      rw [e]
      obtain ⟨B, hB1, hB2⟩ := ih A (acc ++ [(b, a.2)]) (by omega) (fun i hi hj => by
        have := h (i + 1) (by simp only [List.length_cons]; omega) (by simp only [List.length_cons]; omega)
        simpa using this) (by simp only [List.length_append, List.length_cons, List.length_nil]; omega)
      refine ⟨(b, a.2) :: B, ?_, by simp [hB2]⟩
      rw [hB1, List.append_assoc]
      rfl
theorem orN_congr {A B : Al} (h : A.map (·.2) = B.map (·.2)) : orN A = orN B := by
  have e : ∀ A : Al, A.map andN = (A.map (·.2)).map fun c => Prd.mk 4 0 0 valZ false (c.map Prd.still) := fun A => by rw [List.map_map]; rfl
  unfold orN
  rw [e, e, h]
/-- the form of a form -/
theorem form_twice {A : Al} (hA : A.length ≤ 32) (hq : ∀ c ∈ A, ∀ q ∈ c.2, Atom q) (hl : ∀ c ∈ A, c.2.length ≤ 32) : ∃ B : Al, formN false (orN A) = (B, true) ∧ orN B = orN A := by
  have hst : ∀ c ∈ A, c.2.map Prd.still = c.2 := fun c hc => by
    conv => rhs; rw [← List.map_id c.2]
    exact List.map_congr_left fun q hm => (hq c hc q hm).st
  obtain ⟨B, h1, h2⟩ := or_form ((A.map andN).map Prd.still) A [] (by simp) (fun i hi hj => by
    simp only [List.getElem_map]
    have hm : A[i] ∈ A := List.getElem_mem hj
    rw [andN, still_mk, List.map_map, List.map_congr_left (g := id) (fun q hm' => by show q.still.still = q; rw [still_still]; exact (hq _ hm q hm').st), List.map_id]
    exact and_form _ _ _ _ _ rfl (hq _ hm) (hl _ hm)) (by simp; exact hA)
  refine ⟨B, ?_, orN_congr h2⟩
  unfold orN
  rw [form_mk, if_neg (by decide), if_neg (by decide), if_neg (by decide), if_neg (by decide), if_pos rfl]
  exact h1
theorem orN_Sm {A : Al} (hA : A.length ≤ 1000000) (hl : ∀ c ∈ A, c.2.length ≤ 1000000) (h : ∀ c ∈ A, ∀ q ∈ c.2, Sm q) : Sm (orN A) := by
  refine .mk (by simp [bz, valZ]) (by simpa using hA) fun q hq => ?_
  obtain ⟨x, hx, rfl⟩ := List.mem_map.1 hq
  obtain ⟨c, hc, rfl⟩ := List.mem_map.1 hx
  exact Sm_still (andN_Sm (hl c hc) (h c hc))
theorem orN_cnt {A : Al} (hA : A.length ≤ 32) (hl : ∀ c ∈ A, c.2.length ≤ 32) (h : ∀ c ∈ A, ∀ q ∈ c.2, cnt q ≤ 2) : cnt (orN A) ≤ 10000 := by
  unfold orN
  rw [cnt_mk]
  have h1 := cnts_le (l := (A.map andN).map Prd.still) (n := 65) fun q hq => by
    obtain ⟨x, hx, rfl⟩ := List.mem_map.1 hq
    obtain ⟨c, hc, rfl⟩ := List.mem_map.1 hx
    rw [cnt_still, andN, cnt_mk]
    have h2 := cnts_le (l := c.2.map Prd.still) (n := 2) fun q hq => by
      obtain ⟨x, hx, rfl⟩ := List.mem_map.1 hq
      rw [cnt_still]; exact h c hc x hx
    rw [List.length_map] at h2
    have := hl c hc
    omega
  rw [List.length_map, List.length_map] at h1
  omega
end Go.Proofs.Ytjhdickfkpcccaa.D
