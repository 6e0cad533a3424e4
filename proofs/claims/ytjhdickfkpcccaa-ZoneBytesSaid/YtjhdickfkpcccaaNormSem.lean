/- One form is true of the same rows. -/
import Derived.Test.YtjhdickfkpcccaaNormTw
import Derived.Test.YtjhdickfkpcccaaRefEval
namespace Go.Proofs.Ytjhdickfkpcccaa.D
open Go Go.Den
set_option linter.unusedSimpArgs false
set_option linter.unusedVariables false
set_option maxRecDepth 20000
set_option maxHeartbeats 8000000
theorem ex_cons {α : Type} {P : α → Prop} {x : α} {r : List α} : (∃ y ∈ x :: r, P y) ↔ P x ∨ ∃ y ∈ r, P y := by simp
def holdsC (row : List Val) (c : Cj) : Prop := ∀ q ∈ c.2, q.eval row = 1
def holdsA (row : List Val) (A : Al) : Prop := ∃ c ∈ A, holdsC row c
theorem holds_cross {row : List Val} {A B : Al} : holdsA row (crossN A B) ↔ holdsA row A ∧ holdsA row B := by
  constructor
  · rintro ⟨c, hc, h⟩
    simp only [crossN, List.mem_flatMap, List.mem_map] at hc
    obtain ⟨x, hx, y, hy, rfl⟩ := hc
    exact ⟨⟨x, hx, fun q hq => h q (List.mem_append_left _ hq)⟩, ⟨y, hy, fun q hq => h q (List.mem_append_right _ hq)⟩⟩
  · rintro ⟨⟨x, hx, h1⟩, ⟨y, hy, h2⟩⟩
    refine ⟨(false, x.2 ++ y.2), ?_, fun q hq => ?_⟩
    · simp only [crossN, List.mem_flatMap, List.mem_map]
      exact ⟨x, hx, y, hy, rfl⟩
    · rcases List.mem_append.1 hq with hq | hq
      · exact h1 q hq
      · exact h2 q hq
theorem holds_append {row : List Val} {A B : Al} : holdsA row (A ++ B) ↔ holdsA row A ∨ holdsA row B := by
  constructor
  · rintro ⟨c, hc, h⟩
    rcases List.mem_append.1 hc with hc | hc
    · exact .inl ⟨c, hc, h⟩
    · exact .inr ⟨c, hc, h⟩
  · rintro (⟨c, hc, h⟩ | ⟨c, hc, h⟩)
    · exact ⟨c, List.mem_append_left _ hc, h⟩
    · exact ⟨c, List.mem_append_right _ hc, h⟩
theorem fold_and {row : List Val} : ∀ (xs : List (Al × Bool)) (acc : Al × Bool), (xs.foldl bothN acc).2 = true →
    acc.2 = true ∧ (∀ y ∈ xs, y.2 = true) ∧ (holdsA row (xs.foldl bothN acc).1 ↔ holdsA row acc.1 ∧ ∀ y ∈ xs, holdsA row y.1) := by
  intro xs
  induction xs with
  | nil => intro acc h; exact ⟨h, by simp, by simp⟩
  | cons y r ih =>
    intro acc h
    rw [List.foldl_cons] at h ⊢
    obtain ⟨h1, h2, h3⟩ := ih _ h
    unfold bothN at h1
    split at h1
    · rename_i hc
      have hb : bothN acc y = (crossN acc.1 y.1, okLen (crossN acc.1 y.1)) := by unfold bothN; rw [if_pos hc]
      simp only [Bool.and_eq_true, decide_eq_true_eq] at hc
      refine ⟨hc.1.1, ?_, ?_⟩
      · intro z hz
        rcases List.mem_cons.1 hz with rfl | hz
        · exact hc.1.2
        · exact h2 z hz
      · rw [h3, hb]
        dsimp only
        rw [holds_cross, and_assoc, List.forall_mem_cons]
    · cases h1
theorem fold_or {row : List Val} : ∀ (xs : List (Al × Bool)) (acc : Al × Bool), (xs.foldl eitherN acc).2 = true →
    acc.2 = true ∧ (∀ y ∈ xs, y.2 = true) ∧ (holdsA row (xs.foldl eitherN acc).1 ↔ holdsA row acc.1 ∨ ∃ y ∈ xs, holdsA row y.1) := by
  intro xs
  induction xs with
  | nil => intro acc h; exact ⟨h, by simp, by simp⟩
  | cons y r ih =>
    intro acc h
    rw [List.foldl_cons] at h ⊢
    obtain ⟨h1, h2, h3⟩ := ih _ h
    simp only [eitherN, Bool.and_eq_true] at h1
    refine ⟨h1.1.1, ?_, ?_⟩
    · intro z hz
      rcases List.mem_cons.1 hz with rfl | hz
      · exact h1.1.2
      · exact h2 z hz
    · rw [h3]
      simp only [eitherN, holds_append, or_assoc, ex_cons]
theorem list_and {row : List Val} {xs : List (Al × Bool)} (h : (listN true xs).2 = true) : (∀ y ∈ xs, y.2 = true) ∧ (holdsA row (listN true xs).1 ↔ ∀ y ∈ xs, holdsA row y.1) := by
  obtain ⟨_, h2, h3⟩ := fold_and (row := row) xs _ h
  refine ⟨h2, h3.trans ⟨fun h => h.2, fun h => ⟨⟨(true, []), by simp, fun q hq => by cases hq⟩, h⟩⟩⟩
theorem list_or {row : List Val} {xs : List (Al × Bool)} (h : (listN false xs).2 = true) : (∀ y ∈ xs, y.2 = true) ∧ (holdsA row (listN false xs).1 ↔ ∃ y ∈ xs, holdsA row y.1) := by
  obtain ⟨_, h2, h3⟩ := fold_or (row := row) xs _ h
  refine ⟨h2, h3.trans ⟨fun h => ?_, fun h => .inr h⟩⟩
  rcases h with ⟨c, hc, _⟩ | h
  · cases hc
  · exact h
theorem listI_d {d : Int} : ∀ (xs : List Int) (out : Int), out ≠ d → d ≠ 3 → (listI d out xs = d ↔ ∃ x ∈ xs, x = d) := by
  intro xs
  induction xs with
  | nil => intro out h _; simp [listI, h]
  | cons x r ih =>
    intro out h h3
    rw [listI, ex_cons]
    split
    · rename_i hx; simp [hx]
    · rename_i hx
      split
      · rw [ih 3 (fun e => h3 e.symm) h3]; simp [hx]
      · rw [ih out h h3]; simp [hx]
theorem listI_o {d o : Int} (h1 : d ≠ o) (h2 : o ≠ 3) (h3 : d ≠ 3) : ∀ (xs : List Int) (out : Int), (out = o ∨ out = 3) → (∀ x ∈ xs, x = d ∨ x = o ∨ x = 3) → (listI d out xs = o ↔ out = o ∧ ∀ x ∈ xs, x = o) := by
  intro xs
  induction xs with
  | nil => intro out h _; simp [listI]
  | cons x r ih =>
    intro out h hx
    have hr := fun y hy => hx y (List.mem_cons_of_mem _ hy)
    rw [listI, List.forall_mem_cons]
    rcases hx x List.mem_cons_self with e | e | e
    · rw [if_pos e]
      constructor
      · intro h; exact absurd h h1
      · intro h; exact absurd (e.symm.trans h.2.1) h1
    · rw [if_neg (by omega), if_neg (by omega), ih out h hr]
      constructor
      · intro h; exact ⟨h.1, e, h.2⟩
      · intro h; exact ⟨h.1, h.2.2⟩
    · rw [if_neg (by omega), if_pos e, ih 3 (.inr rfl) hr]
      constructor
      · intro h; omega
      · intro h; omega
theorem other_holds {o x : Int} (ho : 1 ≤ o ∧ o ≤ 6) : holdsOp (otherN o) x = !holdsOp o x := by
  rcases (show o = 1 ∨ o = 2 ∨ o = 3 ∨ o = 4 ∨ o = 5 ∨ o = 6 by omega) with rfl | rfl | rfl | rfl | rfl | rfl <;> clear ho
  · rfl
  · simp [otherN, holdsOp]
  · show decide (0 ≤ x) = !decide (x < 0)
    by_cases h : x < 0 <;> simp [h] <;> omega
  · show decide (0 < x) = !decide (x ≤ 0)
    by_cases h : x ≤ 0 <;> simp [h] <;> omega
  · show decide (x ≤ 0) = !decide (0 < x)
    by_cases h : 0 < x <;> simp [h] <;> omega
  · show decide (x < 0) = !decide (0 ≤ x)
    by_cases h : 0 ≤ x <;> simp [h] <;> omega
theorem holds_one {row : List Val} {q : Prd} : holdsA row [(false, [q])] ↔ q.eval row = 1 := by
  constructor
  · rintro ⟨c, hc, h⟩
    simp at hc; subst hc
    exact h q (by simp)
  · intro h
    exact ⟨_, List.mem_cons_self, fun x hx => by simp at hx; subst hx; exact h⟩
theorem truthI_one {b : Bool} : truthI b = 1 ↔ b = true := by cases b <;> decide
theorem truthI_two {b : Bool} : truthI b = 2 ↔ b = false := by cases b <;> decide
theorem form_sem {m : Nat} {row : List Val} {p : Prd} (hw : RW m p) (not : Bool) : (formN not p).2 = true → (holdsA row (formN not p).1 ↔ p.eval row = if not then 2 else 1) := by
  induction p using Prd.ind generalizing not with
  | h k c o v n l ih =>
    obtain ⟨hk, w2, w3, w6, hw⟩ := hw
    have ih := fun q hm => ih q hm (hw q hm)
    rw [form_mk, eval_mk]
    by_cases h1 : k = 1
    · simp only [if_pos h1]
      intro _
      cases not
      · exact ⟨fun _ => rfl, fun _ => ⟨(true, []), by simp, fun q hq => by cases hq⟩⟩
      · exact ⟨fun ⟨c, hc, _⟩ => (by cases hc), fun h => (by simp at h)⟩
    by_cases h2 : k = 2
    · simp only [if_neg h1, if_pos h2]
      intro _
      rw [holds_one, eval_still, eval_mk, if_neg (by decide), if_pos rfl]
      obtain ⟨_, ho⟩ := w2 h2
      cases hn : (atV row c).null
      · simp only [Bool.false_eq_true, if_false]
        cases not
        · simp
        · simp only [if_true, other_holds ho, truthI_one, truthI_two]
          simp
      · cases not <;> simp
    by_cases h3 : k = 3
    · simp only [if_neg h1, if_neg h2, if_pos h3]
      intro _
      rw [holds_one, eval_still]
      cases not
      · simp only [Bool.false_eq_true, if_false]
        rw [eval_mk, if_neg (by decide), if_neg (by decide), if_pos rfl]
      · simp only [if_true, notP]
        rw [eval_mk, if_neg (by decide), if_neg (by decide), if_neg (by decide), if_neg (by decide), if_neg (by decide), if_pos rfl]
        simp only [List.map_cons, List.map_nil, eval_still]
        rw [eval_mk, if_neg (by decide), if_neg (by decide), if_pos rfl]
        cases (atV row c).null <;> decide
    have hrg : ∀ x ∈ l.map (Prd.eval row), x = 1 ∨ x = 2 ∨ x = 3 := fun x hx => by
      obtain ⟨q, _, rfl⟩ := List.mem_map.1 hx
      have := eval_range row q
      omega
    by_cases h4 : k = 4
    · simp only [if_neg h1, if_neg h2, if_neg h3, if_pos h4]
      intro h
      cases not
      · obtain ⟨g1, g2⟩ := list_and (row := row) h
        refine g2.trans ?_
        simp only [Bool.false_eq_true, if_false]
        rw [listI_o (by decide) (by decide) (by decide) _ 1 (.inl rfl) (fun x hx => by have := hrg x hx; omega)]
        simp only [true_and, List.forall_mem_map]
        exact forall_congr' fun q => forall_congr' fun hq => by
          have := ih q hq false (g1 _ (List.mem_map_of_mem hq))
          simpa using this
      · obtain ⟨g1, g2⟩ := list_or (row := row) h
        refine g2.trans ?_
        simp only [if_true]
        rw [listI_d _ 1 (by decide) (by decide)]
        constructor
        · rintro ⟨y, hy, hh⟩
          obtain ⟨q, hq, rfl⟩ := List.mem_map.1 hy
          exact ⟨_, List.mem_map_of_mem hq, by simpa using (ih q hq true (g1 _ hy)).1 hh⟩
        · rintro ⟨x, hx, hh⟩
          obtain ⟨q, hq, rfl⟩ := List.mem_map.1 hx
          exact ⟨_, List.mem_map_of_mem hq, (ih q hq true (g1 _ (List.mem_map_of_mem hq))).2 (by simpa using hh)⟩
    by_cases h5 : k = 5
    · simp only [if_neg h1, if_neg h2, if_neg h3, if_neg h4, if_pos h5]
      intro h
      cases not
      · obtain ⟨g1, g2⟩ := list_or (row := row) h
        refine g2.trans ?_
        simp only [Bool.false_eq_true, if_false]
        rw [listI_d _ 2 (by decide) (by decide)]
        constructor
        · rintro ⟨y, hy, hh⟩
          obtain ⟨q, hq, rfl⟩ := List.mem_map.1 hy
          exact ⟨_, List.mem_map_of_mem hq, by simpa using (ih q hq false (g1 _ hy)).1 hh⟩
        · rintro ⟨x, hx, hh⟩
          obtain ⟨q, hq, rfl⟩ := List.mem_map.1 hx
          exact ⟨_, List.mem_map_of_mem hq, (ih q hq false (g1 _ (List.mem_map_of_mem hq))).2 (by simpa using hh)⟩
      · obtain ⟨g1, g2⟩ := list_and (row := row) h
        refine g2.trans ?_
        simp only [if_true]
        rw [listI_o (by decide) (by decide) (by decide) _ 2 (.inl rfl) (fun x hx => by have := hrg x hx; omega)]
        simp only [true_and, List.forall_mem_map]
        exact forall_congr' fun q => forall_congr' fun hq => by
          have := ih q hq true (g1 _ (List.mem_map_of_mem hq))
          simpa using this
    have h6 : k = 6 := by omega
    simp only [if_neg h1, if_neg h2, if_neg h3, if_neg h4, if_neg h5, if_pos h6]
    cases l with
    | nil => exact absurd rfl (w6 h6)
    | cons q r =>
      intro h
      have hq := ih q List.mem_cons_self (!not) h
      dsimp only at h ⊢
      rw [hq]
      simp only [List.map_cons]
      have hrq := eval_range row q
      generalize q.eval row = x at hrq ⊢
      rcases (show x = 1 ∨ x = 2 ∨ x = 3 by omega) with rfl | rfl | rfl <;> cases not <;> decide
theorem orN_eval {row : List Val} {A : Al} : (orN A).eval row = 1 ↔ holdsA row A := by
  have hrg : ∀ q : Prd, q.eval row = 1 ∨ q.eval row = 2 ∨ q.eval row = 3 := fun q => by have := eval_range row q; omega
  unfold orN
  rw [eval_mk, if_neg (by decide), if_neg (by decide), if_neg (by decide), if_neg (by decide), if_pos rfl, listI_d _ 2 (by decide) (by decide)]
  have key : ∀ c : Cj, (andN c).still.eval row = 1 ↔ holdsC row c := fun c => by
    rw [eval_still, andN, eval_mk, if_neg (by decide), if_neg (by decide), if_neg (by decide), if_pos rfl,
      listI_o (by decide) (by decide) (by decide) _ 1 (.inl rfl) (fun x hx => by
        obtain ⟨q, _, rfl⟩ := List.mem_map.1 hx
        have := hrg q; omega)]
    simp only [true_and, List.map_map, List.forall_mem_map, Function.comp, eval_still]
    rfl
  constructor
  · rintro ⟨x, hx, h⟩
    obtain ⟨q1, hq1, rfl⟩ := List.mem_map.1 hx
    obtain ⟨q2, hq2, rfl⟩ := List.mem_map.1 hq1
    obtain ⟨c, hc, rfl⟩ := List.mem_map.1 hq2
    exact ⟨c, hc, (key c).1 h⟩
  · rintro ⟨c, hc, h⟩
    exact ⟨_, List.mem_map_of_mem (List.mem_map_of_mem (List.mem_map_of_mem hc)), (key c).2 h⟩
theorem firstKey_mem : ∀ {l : List Prd} {k : Int}, firstKey l = some k → ∃ q ∈ l, q.kind = 2 ∧ q.col = 0 ∧ q.op = 1 ∧ q.val.int = k := by
  intro l
  induction l with
  | nil => intro k h; cases h
  | cons p r ih =>
    intro k h
    rw [firstKey] at h
    split at h
    · rename_i hp
      injection h with h
      exact ⟨p, List.mem_cons_self, hp.1, hp.2.1, hp.2.2, h⟩
    · obtain ⟨q, hq, h⟩ := ih h
      exact ⟨q, List.mem_cons_of_mem _ hq, h⟩
theorem key_sem {m : Nat} {row : List Val} {w : Val} {p : Prd} {k : Int} (hw : RW m p) (hk : keyN p = some k) (h0 : atV row 0 = w) (hn : w.null = false) (hkd : w.kind = 1) (h : p.eval row = 1) : w.int = k := by
  unfold keyN at hk
  split at hk
  · rename_i hok
    have hs := form_sem (row := row) hw false hok
    simp only [Bool.false_eq_true, if_false] at hs
    have hA := hs.2 h
    split at hk
    · rename_i c hc
      obtain ⟨c', hc', hh⟩ := hA
      rw [hc] at hc'
      simp at hc'
      subst hc'
      obtain ⟨q, hq, q1, q2, q3, q4⟩ := firstKey_mem hk
      have hq := hh q hq
      obtain ⟨qk, qc, qo, qv, qn, ql⟩ := q
      simp only [Prd.kind, Prd.col, Prd.op, Prd.val] at q1 q2 q3 q4
      subst q1; subst q2; subst q3
      rw [eval_mk, if_neg (by decide), if_pos rfl, h0, hn] at hq
      simp only [Bool.false_eq_true, if_false] at hq
      rw [truthI_one] at hq
      have hq : cmpV w qv = 0 := by simpa [holdsOp] using hq
      unfold cmpV at hq
      rw [hn] at hq
      simp only [Bool.false_eq_true, or_false] at hq
      split at hq
      · rename_i h; exact absurd hq h
      · try rw [if_pos hkd] at hq
        rw [← q4]
        unfold cmpI at hq
        split at hq
        · omega
        · split at hq
          · omega
          · omega
    · cases hk
  · cases hk
theorem RW_still {m : Nat} {p : Prd} (h : RW m p) : RW m p.still := by
  induction p using Prd.ind with
  | h k c o v n l ih =>
    obtain ⟨hk, w2, w3, w6, hw⟩ := h
    rw [still_mk]
    refine .mk hk w2 w3 (fun h => by simpa using w6 h) fun q hq => ?_
    obtain ⟨x, hx, rfl⟩ := List.mem_map.1 hq
    exact ih x hx (hw x hx)
theorem other_range (o : Int) : 1 ≤ otherN o ∧ otherN o ≤ 6 := by
  unfold otherN
  repeat' split
  all_goals omega
theorem form_RW {m : Nat} {p : Prd} (h : RW m p) (not : Bool) : AllQ (RW m) (formN not p) := by
  induction p using Prd.ind generalizing not with
  | h k c o v n l ih =>
    obtain ⟨hk, w2, w3, w6, hw⟩ := h
    have ih := fun q hm => ih q hm (hw q hm)
    rw [form_mk]
    split
    · cases not
      · intro c hc q hq; simp at hc; subst hc; cases hq
      · intro c hc; cases hc
    split
    · rename_i _ h2
      intro d hd q hq; simp at hd; subst hd; simp at hq; subst hq
      subst h2
      refine RW_still (.mk (by decide) (fun _ => ⟨(w2 rfl).1, ?_⟩) (fun h => by cases h) (fun h => by cases h) hw)
      cases not
      · exact (w2 rfl).2
      · exact other_range o
    split
    · rename_i _ _ h3
      subst h3
      intro d hd q hq; simp at hd; subst hd; simp at hq; subst hq
      have hb : RW m (.mk 3 c o v n l) := .mk (by decide) (fun h => by cases h) w3 (fun h => by cases h) hw
      cases not
      · exact RW_still hb
      · exact RW_still (.mk (by decide) (fun h => by cases h) (fun h => by cases h) (fun _ => by simp) fun q hq => by simp at hq; subst hq; exact RW_still hb)
    split
    · refine AllQ.list fun y hy => ?_
      obtain ⟨q, hq, rfl⟩ := List.mem_map.1 hy
      exact ih q hq not
    split
    · refine AllQ.list fun y hy => ?_
      obtain ⟨q, hq, rfl⟩ := List.mem_map.1 hy
      exact ih q hq not
    split
    · cases l with
      | nil => intro c hc; cases hc
      | cons q r => exact ih q List.mem_cons_self _
    · intro c hc; cases hc
theorem orN_RW {m : Nat} {A : Al} (h : ∀ c ∈ A, ∀ q ∈ c.2, RW m q) : RW m (orN A) := by
  refine .mk (by decide) (fun h => by cases h) (fun h => by cases h) (fun h => by cases h) fun q hq => ?_
  obtain ⟨x, hx, rfl⟩ := List.mem_map.1 hq
  obtain ⟨c, hc, rfl⟩ := List.mem_map.1 hx
  refine RW_still (.mk (by decide) (fun h => by cases h) (fun h => by cases h) (fun h => by cases h) fun q hq => ?_)
  obtain ⟨x, hx, rfl⟩ := List.mem_map.1 hq
  exact RW_still (h c hc x hx)
theorem leafN_RW {s : List Col} (hs : 1 ≤ s.length) (n k : Int) : RW s.length (leafN s n k) := by
  have h := colAt_lt hs n
  unfold leafN
  split
  · exact .mk (by decide) (fun h => by cases h) (fun h => by cases h) (fun h => by cases h) (by simp)
  split
  · exact .mk (by decide) (fun h => by cases h) (fun _ => by omega) (fun h => by cases h) (by simp)
  · exact .mk (by decide) (fun _ => by omega) (fun h => by cases h) (fun h => by cases h) (by simp)
theorem predN_RW {s : List Col} (hs : 1 ≤ s.length) (l : List Int) : ∀ (d i : Nat), RW s.length (predN s l d i)
  | 0, i => by rw [predN]; exact leafN_RW hs _ _
  | 1, i => by rw [predN]; exact leafN_RW hs _ _
  | d + 2, i => by
    rw [predN]
    split
    · rename_i h
      refine .mk (by omega) (fun h => by omega) (fun h => by omega) (fun h => by omega) fun q hq => ?_
      obtain ⟨j, _, rfl⟩ := List.mem_map.1 hq
      exact predN_RW hs l (d + 1) _
    split
    · refine .mk (by decide) (fun h => by cases h) (fun h => by cases h) (fun _ => by simp) fun q hq => ?_
      simp at hq; subst hq
      exact predN_RW hs l (d + 1) _
    · exact leafN_RW hs _ _
end Go.Proofs.Ytjhdickfkpcccaa.D
