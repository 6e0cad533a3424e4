/- From where to where columns go. -/
import Derived.Test.YtfgbklmmildakaaPred2
import Derived.Test.YtfgbklmmildakaaDenL2
namespace Go.Proofs.Ytfgbklmmildakaa.D
open Go Go.Den
set_option linter.unusedSimpArgs false
set_option linter.unusedVariables false
set_option maxRecDepth 20000
set_option maxHeartbeats 8000000
structure Zn where
  nulls : Int
  mn : Val
  mx : Val
def Zn.pv (z : Zn) : List PV := [.int .i64 z.nulls, .bool z.mn.null, .int .i64 z.mn.kind, .int .i64 z.mn.int, bl z.mn.bytes, .bool z.mx.null, .int .i64 z.mx.kind, .int .i64 z.mx.int, bl z.mx.bytes]
def stv (v : Val) : Val := ⟨v.null, v.kind, v.int, some (bz v.bytes)⟩
def takeN (z : Zn) (v : Val) : Zn :=
  if v.null = true then ⟨z.nulls + 1, z.mn, z.mx⟩
  else if z.mn.null = true then ⟨z.nulls, stv v, stv v⟩
  else ⟨z.nulls, if cmpV v z.mn < 0 then stv v else z.mn, if 0 < cmpV v z.mx then stv v else z.mx⟩
/-- a leaf of bytes: told anew, or handed on -/
def rl (f : Bool) (o : Option (List Int)) : PV := if f then .nr 5 1 (ints .u8 (bz o)) else bl o
theorem take_spec {z : Zn} {v : Val} (hb : (bz v.bytes).length ≤ 1000000) (hn : 0 ≤ z.nulls ∧ z.nulls ≤ 1000000000) : ∃ f1 f2 : Bool, (f1 = true → (takeN z v).mn.bytes = some (bz (takeN z v).mn.bytes)) ∧ (f2 = true → (takeN z v).mx.bytes = some (bz (takeN z v).mx.bytes)) ∧
    dw E 38 [.agg [.int .i64 z.nulls, .bool z.mn.null, .int .i64 z.mn.kind, .int .i64 z.mn.int, bl z.mn.bytes, .bool z.mx.null, .int .i64 z.mx.kind, .int .i64 z.mx.int, bl z.mx.bytes], .agg [.bool v.null, .int .i64 v.kind, .int .i64 v.int, bl v.bytes]] [] =
      some (.agg [.int .i64 (takeN z v).nulls, .bool (takeN z v).mn.null, .int .i64 (takeN z v).mn.kind, .int .i64 (takeN z v).mn.int, rl f1 (takeN z v).mn.bytes, .bool (takeN z v).mx.null, .int .i64 (takeN z v).mx.kind, .int .i64 (takeN z v).mx.int, rl f2 (takeN z v).mx.bytes], []) := by
  unfold takeN
  cases hv : v.null with
  | true =>
    refine ⟨false, false, fun h => (by cases h), fun h => (by cases h), ?_⟩
    simp only [if_true, rl, Bool.false_eq_true, if_false]
    refine dw_in (fn := Try.f38) rfl body38 (by simp) ?_
    simp -implicitDefEqProofs (maxSteps := 4000000) (disch := omega) only [go_sem, go_sem_proc, dr, Nat.min_def, ↓reduceIte]
  | false =>
    have hVal := Val_spec (nl := v.null) (k := v.kind) (i := v.int) hb
    rw [hv] at hVal
    cases hz : z.mn.null with
    | true =>
      refine ⟨true, true, fun _ => rfl, fun _ => rfl, ?_⟩
      simp only [Bool.false_eq_true, if_false, if_true, rl, stv, hv]
      refine dw_in (fn := Try.f38) rfl body38 (by simp) ?_
      simp -implicitDefEqProofs (maxSteps := 4000000) (disch := omega) only [go_sem, go_sem_proc, dr, Nat.min_def, ↓reduceIte, hVal]
      ((repeat' split) <;> (change _ = true; kernel_rfl))
    | false =>
      have c1 := Compare_spec (nl := v.null) (k := v.kind) (i := v.int) (o := v.bytes) (ml := z.mn.null) (l := z.mn.kind) (j := z.mn.int) (q := z.mn.bytes)
      have c2 := Compare_spec (nl := v.null) (k := v.kind) (i := v.int) (o := v.bytes) (ml := z.mx.null) (l := z.mx.kind) (j := z.mx.int) (q := z.mx.bytes)
      rw [show cmpV ⟨v.null, v.kind, v.int, v.bytes⟩ ⟨z.mn.null, z.mn.kind, z.mn.int, z.mn.bytes⟩ = cmpV v z.mn from rfl, hv, hz] at c1
      rw [show cmpV ⟨v.null, v.kind, v.int, v.bytes⟩ ⟨z.mx.null, z.mx.kind, z.mx.int, z.mx.bytes⟩ = cmpV v z.mx from rfl, hv] at c2
      simp only [Bool.false_eq_true, if_false]
      generalize cmpV v z.mn = a at c1 ⊢
      generalize cmpV v z.mx = b at c2 ⊢
      by_cases h1 : a < 0
      · by_cases h2 : 0 < b
        · refine ⟨true, true, fun _ => (by simp [h1, stv]; rfl), fun _ => (by simp [h2, stv]; rfl), ?_⟩
          simp only [if_pos h1, if_pos h2, rl, if_true, stv, hv]
          refine dw_in (fn := Try.f38) rfl body38 (by simp) ?_
          simp -implicitDefEqProofs (maxSteps := 4000000) (disch := omega) only [go_sem, go_sem_proc, dr, Nat.min_def, ↓reduceIte, hVal, c1, c2]
        · have h2 : b ≤ 0 := by omega
          refine ⟨true, false, fun _ => (by simp [h1, stv]; rfl), fun h => (by cases h), ?_⟩
          simp only [if_pos h1, if_neg (show ¬ 0 < b by omega), rl, if_true, Bool.false_eq_true, if_false, stv, hv]
          refine dw_in (fn := Try.f38) rfl body38 (by simp) ?_
          simp -implicitDefEqProofs (maxSteps := 4000000) (disch := omega) only [go_sem, go_sem_proc, dr, Nat.min_def, ↓reduceIte, hVal, c1, c2]
      · have h1 : 0 ≤ a := by omega
        by_cases h2 : 0 < b
        · refine ⟨false, true, fun h => (by cases h), fun _ => (by simp [h2, stv]; rfl), ?_⟩
          simp only [if_neg (show ¬ a < 0 by omega), if_pos h2, rl, if_true, Bool.false_eq_true, if_false, stv, hv]
          refine dw_in (fn := Try.f38) rfl body38 (by simp) ?_
          simp -implicitDefEqProofs (maxSteps := 4000000) (disch := omega) only [go_sem, go_sem_proc, dr, Nat.min_def, ↓reduceIte, hVal, c1, c2, hz]
        · have h2 : b ≤ 0 := by omega
          refine ⟨false, false, fun h => (by cases h), fun h => (by cases h), ?_⟩
          simp only [if_neg (show ¬ a < 0 by omega), if_neg (show ¬ 0 < b by omega), rl, Bool.false_eq_true, if_false]
          refine dw_in (fn := Try.f38) rfl body38 (by simp) ?_
          simp -implicitDefEqProofs (maxSteps := 4000000) (disch := omega) only [go_sem, go_sem_proc, dr, Nat.min_def, ↓reduceIte, hVal, c1, c2, hz]
end Go.Proofs.Ytfgbklmmildakaa.D
