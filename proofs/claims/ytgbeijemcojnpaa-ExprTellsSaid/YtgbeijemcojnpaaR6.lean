/- What the document says of predicates: which may be, and which are the same. -/
import Derived.Test.YtgbeijemcojnpaaPred3
namespace Go.Proofs.Ytgbeijemcojnpaa.D
open Go Go.Den
set_option linter.unusedSimpArgs false
set_option linter.unusedVariables false
set_option maxRecDepth 20000
set_option maxHeartbeats 8000000
/-- things of a list's length at most -/
inductive Sl : Prd → Prop where
  | mk {k c o : Int} {v : Val} {n : Bool} {l : List Prd} : (bz v.bytes).length ≤ 9223372036854775807 → l.length ≤ 9223372036854775807 → (∀ q ∈ l, Sl q) → Sl (.mk k c o v n l)
def zeroB (v : Val) : Bool := !v.null && (decide (v.kind = 0) && (decide (v.int = 0) && decide (((bz v.bytes).length : Int) = 0)))
def valueB (kind : Int) (v : Val) : Bool :=
  if v.kind = kind ∧ (v.kind = 1 ∨ v.kind = 2) then
    (if v.null = true ∨ v.kind = 1 then decide (((bz v.bytes).length : Int) = 0) && (!v.null || decide (v.int = 0))
     else decide (v.int = 0) && decide (((bz v.bytes).length : Int) ≤ 64))
  else false
theorem zero_spec {v : Val} (hv : (bz v.bytes).length ≤ 9223372036854775807) : dw E 53 [.agg [.bool v.null, .int .i64 v.kind, .int .i64 v.int, bl v.bytes]] [] = some (.bool (zeroB v), []) := by
  refine dw_in (fn := Try.f53) rfl body53 (by simp) ?_
  unfold zeroB
  obtain ⟨nl, k, i, o⟩ := v
  obtain ⟨q, hq⟩ : ∃ q, (bz o).length = q := ⟨_, rfl⟩
  dsimp only
  have hl : lenOf (bl o) = .ret q := by rw [← hq]; cases o <;> simp [lenOf, bl, bz, ints]
  rcases Classical.propComplete (k = 0) with i1 | i1 <;> rcases Classical.propComplete (i = 0) with i2 | i2 <;> rcases Classical.propComplete ((q : Int) = 0) with i3 | i3 <;> cases nl <;> simp -implicitDefEqProofs (maxSteps := 4000000) only [go_sem, go_sem_proc, ↓reduceIte, Nat.min_def, i1, i2, i3, hq, hl]
theorem Value_ref {kind : Int} {v : Val} (hv : (bz v.bytes).length ≤ 9223372036854775807) : dw E 47 [.int .i64 kind, .agg [.bool v.null, .int .i64 v.kind, .int .i64 v.int, bl v.bytes]] [] = some (.bool (valueB kind v), []) := by
  refine dw_in (fn := Try.f47) rfl body47 (by simp) ?_
  unfold valueB
  obtain ⟨nl, k, i, o⟩ := v
  obtain ⟨q, hq⟩ : ∃ q, (bz o).length = q := ⟨_, rfl⟩
  dsimp only
  have hl : lenOf (bl o) = .ret q := by rw [← hq]; cases o <;> simp [lenOf, bl, bz, ints]
  by_cases h0 : k = kind
  · subst h0
    by_cases h1 : k = 1
    · subst h1
      rcases Classical.propComplete (i = 0) with i2 | i2 <;> rcases Classical.propComplete ((q : Int) = 0) with i3 | i3 <;> cases nl <;> simp -implicitDefEqProofs (maxSteps := 4000000) only [go_sem, go_sem_proc, ↓reduceIte, Nat.min_def, i2, i3, hq, hl]
    · by_cases h2 : k = 2
      · subst h2
        rcases Classical.propComplete (i = 0) with i2 | i2 <;> rcases Classical.propComplete ((q : Int) = 0) with i3 | i3 <;> rcases Classical.propComplete ((q : Int) ≤ 64) with i4 | i4 <;> cases nl <;> simp -implicitDefEqProofs (maxSteps := 4000000) only [go_sem, go_sem_proc, ↓reduceIte, Nat.min_def, i2, i3, i4, hq, hl]
      · have i1 := eq_false h1
        have i2 := eq_false h2
        simp -implicitDefEqProofs (maxSteps := 4000000) only [go_sem, go_sem_proc, ↓reduceIte, Nat.min_def, i1, i2]
  · have i0 := eq_false h0
    simp -implicitDefEqProofs (maxSteps := 4000000) only [go_sem, go_sem_proc, ↓reduceIte, Nat.min_def, i0]
/-- how deep, how many -/
def deepL (f : Prd → Int × Int) : List Prd → Int → Int → Int × Int
  | [], d, n => (d, n)
  | q :: r, d, n => if n ≤ 64 then deepL f r (if d < (f q).1 then (f q).1 else d) (n + (f q).2) else (d, n)
def deepN : Nat → Prd → Int × Int
  | 0, _ => (1, 1)
  | m + 1, p => ((deepL (deepN m) p.list 0 1).1 + 1, if 65 < (deepL (deepN m) p.list 0 1).2 then 65 else (deepL (deepN m) p.list 0 1).2)
theorem deepL_range {f : Prd → Int × Int} {b : Int} (hf : ∀ q, 0 ≤ (f q).1 ∧ (f q).1 ≤ b ∧ 1 ≤ (f q).2 ∧ (f q).2 ≤ 65) : ∀ (l : List Prd) (d n : Int), 0 ≤ d ∧ d ≤ b ∧ 1 ≤ n ∧ n ≤ 129 →
    0 ≤ (deepL f l d n).1 ∧ (deepL f l d n).1 ≤ b ∧ 1 ≤ (deepL f l d n).2 ∧ (deepL f l d n).2 ≤ 129 := by
  intro l
  induction l with
  | nil => intro d n h; exact h
  | cons q r ih =>
    intro d n h
    rw [deepL]
    split
    · have := hf q
      refine ih _ _ ⟨?_, ?_, by omega, by omega⟩ <;> split <;> omega
    · exact h
theorem deepN_range : ∀ (m : Nat) (p : Prd), 0 ≤ (deepN m p).1 ∧ (deepN m p).1 ≤ m + 1 ∧ 1 ≤ (deepN m p).2 ∧ (deepN m p).2 ≤ 65
  | 0, p => by simp [deepN]
  | m + 1, p => by
    have h := deepL_range (f := deepN m) (b := m + 1) (fun q => deepN_range m q) p.list 0 1 ⟨by omega, by omega, by omega, by omega⟩
    rw [deepN]
    refine ⟨by dsimp only; omega, by dsimp only; omega, ?_, ?_⟩ <;> dsimp only <;> split <;> omega
theorem deep_spec : ∀ (m : Nat) {p : Prd}, m ≤ 10 → Sl p → dw E 44 [.agg [.int .i64 p.kind, .int .i64 p.col, .int .i64 p.op, .bool p.val.null, .int .i64 p.val.kind, .int .i64 p.val.int, bl p.val.bytes, pl p.nil p.list], .int .i64 m] [] = some (.tup [.int .i64 (deepN m p).1, .int .i64 (deepN m p).2], [])
  | 0, p, _, hp => by
    refine dw_in (fn := Try.f44) rfl body44 (by simp) ?_
    simp -implicitDefEqProofs (maxSteps := 4000000) (disch := omega) only [go_sem, go_sem_proc, dr, Nat.min_def, ↓Nat.reduceBEq, ↓Nat.reduceEqDiff, ↓Nat.reduceLT, ↓Nat.reduceLeDiff, ↓Int.reduceEq, ↓Int.reduceLT, ↓Int.reduceLE, ↓reduceIte, deepN]
  | m + 1, p, hm, hp => by
    obtain ⟨k, c, o, v, n, l⟩ := p
    obtain ⟨hb, hl, hq⟩ := hp
    have ih := fun q hm' => deep_spec m (p := q) (by omega) (hq q hm')
    have hr := deepL_range (f := deepN m) (b := m + 1) (fun q => deepN_range m q)
    simp only [Prd.kind, Prd.col, Prd.op, Prd.val, Prd.nil, Prd.list]
    refine dw_in (fn := Try.f44) rfl body44 (by simp) ?_
    rw [deepN]
    simp only [Prd.list]
    simp -implicitDefEqProofs (maxSteps := 4000000) (disch := omega) only [go_sem, go_sem_proc, dr, Nat.min_def, ↓Nat.reduceBEq, ↓Nat.reduceEqDiff, ↓Nat.reduceLT, ↓Nat.reduceLeDiff, ↓Int.reduceEq, ↓Int.reduceLT, ↓Int.reduceLE, ↓reduceIte]
    refine runs_any (fun s : Nat × Int × Int => (⟨[(1, .int .i64 (m + 1)), (2, .pb 1048578 0), (6, .int .i64 s.2.1), (7, .int .i64 s.2.2), (8, .int .i64 s.1)],
      [(1048578, some ⟨true, .box [.int .i64 k, .int .i64 c, .int .i64 o, .bool v.null, .int .i64 v.kind, .int .i64 v.int, bl v.bytes, pl n l]⟩)], 1⟩ : St)) (fun s => l.length - s.1) (0, 0, 1)
      (fun s => s.1 ≤ l.length ∧ deepL (deepN m) l 0 1 = deepL (deepN m) (l.drop s.1) s.2.1 s.2.2 ∧ 0 ≤ s.2.1 ∧ s.2.1 ≤ m + 1 ∧ 1 ≤ s.2.2 ∧ s.2.2 ≤ 129) ⟨Nat.zero_le _, by simp, by simp, by simp; omega, by simp, by simp⟩ ?_ ?_
    · simp -implicitDefEqProofs (maxSteps := 4000000) (disch := omega) only [go_sem, go_sem_proc, dr, Nat.min_def, ↓Nat.reduceBEq, ↓Nat.reduceEqDiff, ↓Nat.reduceLT, ↓Nat.reduceLeDiff, ↓Int.reduceEq, ↓Int.reduceLT, ↓Int.reduceLE, ↓reduceIte]
    · rintro ⟨i, d, e⟩ ⟨hi, he, h1, h2, h3, h4⟩
      dsimp only at hi he h1 h2 h3 h4
      have hrr := hr l 0 1 ⟨by omega, by omega, by omega, by omega⟩
      by_cases hlt : i < l.length
      · obtain ⟨q, hq, hqm, _⟩ := take_get hlt
        have hd : l.drop i = q :: l.drop (i + 1) := by rw [List.drop_eq_getElem_cons hlt, (List.getElem?_eq_some_iff.1 hq).2]
        rw [hd, deepL] at he
        by_cases h64 : e ≤ 64
        · rw [if_pos h64] at he
          have hx := deepN_range m q
          have hev := ih q hqm
          generalize deepN m q = Z at he hx hev
          obtain ⟨x, y⟩ := Z
          dsimp only at he hx hev
          simp -implicitDefEqProofs (maxSteps := 4000000) (disch := omega) only [go_sem, go_sem_proc, dr, Nat.min_def, ↓Nat.reduceBEq, ↓Nat.reduceEqDiff, ↓Nat.reduceLT, ↓Nat.reduceLeDiff, ↓Int.reduceEq, ↓Int.reduceLT, ↓Int.reduceLE, ↓reduceIte, hq, pl_get hlt, pv_eq, hev]
          exact ⟨(i + 1, if d < x then x else d, e + y), rfl, ⟨by omega, he, by dsimp only; split <;> omega, by dsimp only; split <;> omega, by dsimp only; omega, by dsimp only; omega⟩, by show l.length - (i + 1) < l.length - i; omega⟩
        · rw [if_neg h64] at he
          have h64 : 64 < e := by omega
          by_cases h65 : 65 < e
          · simp -implicitDefEqProofs (maxSteps := 4000000) (disch := omega) only [go_sem, go_sem_proc, dr, Nat.min_def, ↓Nat.reduceBEq, ↓Nat.reduceEqDiff, ↓Nat.reduceLT, ↓Nat.reduceLeDiff, ↓Int.reduceEq, ↓Int.reduceLT, ↓Int.reduceLE, ↓reduceIte, he, pl_get hlt, if_pos h65]
          · simp -implicitDefEqProofs (maxSteps := 4000000) (disch := omega) only [go_sem, go_sem_proc, dr, Nat.min_def, ↓Nat.reduceBEq, ↓Nat.reduceEqDiff, ↓Nat.reduceLT, ↓Nat.reduceLeDiff, ↓Int.reduceEq, ↓Int.reduceLT, ↓Int.reduceLE, ↓reduceIte, he, pl_get hlt, if_neg h65]
      · have hd : l.drop i = [] := List.drop_eq_nil_of_le (by omega)
        rw [hd, deepL] at he
        by_cases h65 : 65 < e
        · simp -implicitDefEqProofs (maxSteps := 4000000) (disch := omega) only [go_sem, go_sem_proc, dr, Nat.min_def, ↓Nat.reduceBEq, ↓Nat.reduceEqDiff, ↓Nat.reduceLT, ↓Nat.reduceLeDiff, ↓Int.reduceEq, ↓Int.reduceLT, ↓Int.reduceLE, ↓reduceIte, he, if_pos h65]
        · simp -implicitDefEqProofs (maxSteps := 4000000) (disch := omega) only [go_sem, go_sem_proc, dr, Nat.min_def, ↓Nat.reduceBEq, ↓Nat.reduceEqDiff, ↓Nat.reduceLT, ↓Nat.reduceLeDiff, ↓Int.reduceEq, ↓Int.reduceLT, ↓Int.reduceLE, ↓reduceIte, he, if_neg h65]
end Go.Proofs.Ytgbeijemcojnpaa.D
