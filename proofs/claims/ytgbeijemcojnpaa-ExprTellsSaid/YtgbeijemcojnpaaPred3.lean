/- Whether a predicate is right. -/
import Derived.Test.YtgbeijemcojnpaaPred2
import Derived.Test.YtgbeijemcojnpaaDenL2
namespace Go.Proofs.Ytgbeijemcojnpaa.D
open Go Go.Den
set_option linter.unusedSimpArgs false
set_option linter.unusedVariables false
set_option maxRecDepth 20000
set_option maxHeartbeats 4000000
def noneV (v : Val) : Bool := sameV v valZ
def bareB (c o : Int) (v : Val) : Bool := decide (c = 0) && (decide (o = 0) && noneV v)
def kindAt (s : List Col) (c : Int) : Int := (s.getD c.toNat keyCol).kind
def inB (s : List Col) (c : Int) : Bool := decide (0 ≤ c) && decide (c < s.length)
def oneB (s : List Col) (k c o : Int) (v : Val) (n : Nat) : Bool :=
  if k = 1 then bareB c o v && decide (n = 0)
  else if k = 2 then inB s c && (decide (1 ≤ o) && (decide (o ≤ 6) && (isV v && (!v.null && (decide (v.kind = kindAt s c) && decide (n = 0))))))
  else if k = 3 then inB s c && (decide (o = 0) && (noneV v && decide (n = 0)))
  else if k = 4 then bareB c o v && decide (n ≤ 8)
  else if k = 5 then bareB c o v && decide (n ≤ 8)
  else if k = 6 then bareB c o v && decide (n = 1)
  else false
theorem dec_cast (n : Nat) (k : Nat) : decide ((n : Int) = (k : Int)) = decide (n = k) := by
  rw [decide_eq_decide]; omega
theorem none_spec {v : Val} : dw E 58 [.agg [.bool v.null, .int .i64 v.kind, .int .i64 v.int, bl v.bytes]] [] = some (.bool (noneV v), []) := by
  refine dw_in (fn := Try.f58) rfl body58 (by simp) ?_
  have hE := Equal_val (nl := v.null) (ml := false) (k := v.kind) (i := v.int) (l := 0) (j := 0) (o := v.bytes) (q := none)
  rw [bl_none] at hE
  simp -implicitDefEqProofs (maxSteps := 4000000) only [go_sem, go_sem_proc, ↓reduceIte, Nat.min_def, hE]
  rfl
theorem bare_spec {k c o : Int} {v : Val} {n : Bool} {l : List Prd} : dw E 57 [.agg [.int .i64 k, .int .i64 c, .int .i64 o, .bool v.null, .int .i64 v.kind, .int .i64 v.int, bl v.bytes, pl n l]] [] = some (.bool (bareB c o v), []) := by
  refine dw_in (fn := Try.f57) rfl body57 (by simp) ?_
  unfold bareB
  rcases Classical.propComplete (c = 0) with h1 | h1
  · rcases Classical.propComplete (o = 0) with h2 | h2
    · simp -implicitDefEqProofs (maxSteps := 4000000) only [go_sem, go_sem_proc, ↓reduceIte, Nat.min_def, h1, h2, none_spec]
    · simp -implicitDefEqProofs (maxSteps := 4000000) only [go_sem, go_sem_proc, ↓reduceIte, Nat.min_def, h1, h2]
  · simp -implicitDefEqProofs (maxSteps := 4000000) only [go_sem, go_sem_proc, ↓reduceIte, Nat.min_def, h1]
theorem one_spec {s : List Col} {k c o : Int} {v : Val} {n : Bool} {l : List Prd} (hs : s.length ≤ 20) : dw E 51 [.agg [.sl 3 (s.map Col.pv)], .agg [.int .i64 k, .int .i64 c, .int .i64 o, .bool v.null, .int .i64 v.kind, .int .i64 v.int, bl v.bytes, pl n l]] [] = some (.bool (oneB s k c o v l.length), []) := by
  refine dw_in (fn := Try.f51) rfl body51 (by simp) ?_
  have hB := bare_spec (k := k) (c := c) (o := o) (v := v) (n := n) (l := l)
  obtain ⟨q, hq⟩ : ∃ q, l.length = q := ⟨_, rfl⟩
  have hl0 : ((q : Int) = 0) = (q = 0) := propext (by omega)
  have hl1 : ((q : Int) = 1) = (q = 1) := propext (by omega)
  have hl8 : ((q : Int) ≤ 8) = (q ≤ 8) := propext (by omega)
  rw [hq]
  unfold oneB
  rcases Classical.propComplete (0 ≤ c) with i1 | i1 <;> rcases Classical.propComplete (c < (s.length : Int)) with i2 | i2
  all_goals
    by_cases h1 : k = 1
    · subst h1
      cases hb : bareB c o v <;> rw [hb] at hB <;> simp -implicitDefEqProofs (maxSteps := 4000000) only [go_sem, go_sem_proc, ↓reduceIte, Nat.min_def, i1, i2, hB, hl0, hq]
    by_cases h4 : k = 4
    · subst h4
      cases hb : bareB c o v <;> rw [hb] at hB <;> simp -implicitDefEqProofs (maxSteps := 4000000) only [go_sem, go_sem_proc, ↓reduceIte, Nat.min_def, i1, i2, hB, hl8, hq]
    by_cases h5 : k = 5
    · subst h5
      cases hb : bareB c o v <;> rw [hb] at hB <;> simp -implicitDefEqProofs (maxSteps := 4000000) only [go_sem, go_sem_proc, ↓reduceIte, Nat.min_def, i1, i2, hB, hl8, hq]
    by_cases h6 : k = 6
    · subst h6
      cases hb : bareB c o v <;> rw [hb] at hB <;> simp -implicitDefEqProofs (maxSteps := 4000000) only [go_sem, go_sem_proc, ↓reduceIte, Nat.min_def, i1, i2, hB, hl1, hq]
    by_cases h3 : k = 3
    · subst h3
      unfold inB
      cases hb : noneV v <;> have hn := none_spec (v := v) <;> rw [hb] at hn <;> rcases Classical.propComplete (o = 0) with j1 | j1 <;> simp -implicitDefEqProofs (maxSteps := 4000000) only [go_sem, go_sem_proc, ↓reduceIte, Nat.min_def, i1, i2, j1, hn, hl0, hq]
    by_cases h2 : k = 2
    · subst h2
      have hI := Is_spec (nl := v.null) (k := v.kind) (i := v.int) (o := v.bytes)
      rw [show (⟨v.null, v.kind, v.int, v.bytes⟩ : Val) = v from rfl] at hI
      by_cases hin : 0 ≤ c ∧ c < (s.length : Int)
      · obtain ⟨i, rfl⟩ := Int.eq_ofNat_of_zero_le hin.1
        obtain ⟨col, hcol, _, _⟩ := take_get (show i < s.length by omega)
        have hka : kindAt s (i : Int) = col.kind := by unfold kindAt; rw [Int.toNat_natCast, List.getD_eq_getElem?_getD, hcol]; rfl
        have e1 : inB s (i : Int) = true := by unfold inB; simp; omega
        have c1 : (i : Int) < s.length := hin.2
        have c0 : (0 : Int) ≤ i := hin.1
        rw [e1, hka]
        rcases Classical.propComplete (1 ≤ o) with j1 | j1 <;> rcases Classical.propComplete (o ≤ 6) with j2 | j2 <;> cases hv : isV v <;> rw [hv] at hI <;> cases hn : v.null <;> rw [hn] at hI <;> rcases Classical.propComplete (v.kind = col.kind) with j3 | j3 <;>
          simp -implicitDefEqProofs (maxSteps := 4000000) only [go_sem, go_sem_proc, ↓reduceIte, Nat.min_def, c0, c1, j1, j2, j3, hn, hI, hcol, hl0, hq, (show i < s.length by omega)] <;> ((repeat' split) <;> (change _ = true; kernel_rfl))
      · have e1 : inB s c = false := by unfold inB; simp; omega
        rw [e1]
        by_cases hc0 : 0 ≤ c
        · have hc1 : ¬ c < (s.length : Int) := by omega
          simp -implicitDefEqProofs (maxSteps := 4000000) only [go_sem, go_sem_proc, ↓reduceIte, Nat.min_def, hc0, hc1] <;> ((repeat' split) <;> (change _ = true; kernel_rfl))
        · simp -implicitDefEqProofs (maxSteps := 4000000) only [go_sem, go_sem_proc, ↓reduceIte, Nat.min_def, hc0] <;> ((repeat' split) <;> (change _ = true; kernel_rfl))
    simp -implicitDefEqProofs (maxSteps := 4000000) only [go_sem, go_sem_proc, ↓reduceIte, Nat.min_def, i1, i2, h1, h2, h3, h4, h5, h6]
end Go.Proofs.Ytgbeijemcojnpaa.D
