/- One form: Norm and Key. -/
import Derived.Test.YtjhdickfkpcccaaNorm6
namespace Go.Proofs.Ytjhdickfkpcccaa.D
open Go Go.Den
set_option linter.unusedSimpArgs false
set_option linter.unusedVariables false
set_option maxRecDepth 20000
set_option maxHeartbeats 4000000
def andN (c : Cj) : Prd := .mk 4 0 0 valZ false (c.2.map Prd.still)
def orN (A : Al) : Prd := .mk 5 0 0 valZ false ((A.map andN).map Prd.still)
theorem andN_pv (c : Cj) : (andN c).pv = [.int .i64 4, .int .i64 0, .int .i64 0, .bool false, .int .i64 0, .int .i64 0, .nils, .sl 8 ((c.2.map Prd.still).map Prd.pv)] := by
  rw [andN, pv_mk]; rfl
theorem andN_Sm {c : Cj} (h1 : c.2.length ≤ 1000000) (h : ∀ q ∈ c.2, Sm q) : Sm (andN c) := by
  refine .mk (by simp [bz, valZ]) (by simpa using h1) fun q hq => ?_
  obtain ⟨x, hx, rfl⟩ := List.mem_map.1 hq
  exact Sm_still (h x hx)
theorem Norm_no {p : Prd} (hp : Sm p) (hc : cnt p ≤ 10000) (h : (formN false p).2 = false) : dw E 11 [.agg [.int .i64 p.kind, .int .i64 p.col, .int .i64 p.op, .bool p.val.null, .int .i64 p.val.kind, .int .i64 p.val.int, bl p.val.bytes, pl p.nil p.list]] [] =
    some (.tup [.agg [.int .i64 0, .int .i64 0, .int .i64 0, .bool false, .int .i64 0, .int .i64 0, .nils, .nils], .bool false], []) := by
  refine dw_in (fn := Try.f11) rfl body11 (by simp) ?_
  obtain ⟨lf, hlf, ho⟩ := of_spec hp hc false
  rw [h] at ho
  rcases hlf with ⟨rfl, _⟩ | rfl
  · simp -implicitDefEqProofs (maxSteps := 4000000) (disch := omega) only [go_sem, go_sem_proc, dr, Nat.min_def, ↓Nat.reduceBEq, ↓Nat.reduceEqDiff, ↓Nat.reduceLT, ↓Nat.reduceLeDiff, ↓Int.reduceEq, ↓Int.reduceLT, ↓Int.reduceLE, ↓reduceIte, ho]
  · simp -implicitDefEqProofs (maxSteps := 4000000) (disch := omega) only [go_sem, go_sem_proc, dr, Nat.min_def, ↓Nat.reduceBEq, ↓Nat.reduceEqDiff, ↓Nat.reduceLT, ↓Nat.reduceLeDiff, ↓Int.reduceEq, ↓Int.reduceLT, ↓Int.reduceLE, ↓reduceIte, ho]
theorem Norm_yes {p : Prd} (hp : Sm p) (hc : cnt p ≤ 10000) (h : (formN false p).2 = true) : dw E 11 [.agg [.int .i64 p.kind, .int .i64 p.col, .int .i64 p.op, .bool p.val.null, .int .i64 p.val.kind, .int .i64 p.val.int, bl p.val.bytes, pl p.nil p.list]] [] =
    some (.tup [.agg [.int .i64 5, .int .i64 0, .int .i64 0, .bool false, .int .i64 0, .int .i64 0, .nils, .nr 41 8 (((((formN false p).1).map andN).map Prd.still).map Prd.pv)], .bool true], []) := by
  refine dw_in (fn := Try.f11) rfl body11 (by simp) ?_
  obtain ⟨lf, hlf, ho⟩ := of_spec hp hc false
  have g := form_Gd hp false
  generalize formN false p = Y at g hlf ho h ⊢
  obtain ⟨A, a⟩ := Y
  dsimp only at h
  subst h
  have hA : A.length ≤ 330000 := by have := g.len; dsimp only at this; omega
  have hS : ∀ q ∈ A.map andN, Sm q := fun q hq => by
    obtain ⟨c, hc, rfl⟩ := List.mem_map.1 hq
    exact andN_Sm (by have := g.ok rfl c hc; omega) (g.sm c hc)
  have hany := Any_spec (l := A.map andN) false (by rw [List.length_map]; omega) hS
  rw [pl_false] at hany
  rcases hlf with ⟨rfl, hA0⟩ | rfl
  · dsimp only at hA0
    subst hA0
    simp only [List.map_nil] at hany
    simp -implicitDefEqProofs (maxSteps := 4000000) (disch := omega) only [go_sem, go_sem_proc, dr, Nat.min_def, ↓Nat.reduceBEq, ↓Nat.reduceEqDiff, ↓Nat.reduceLT, ↓Nat.reduceLeDiff, ↓Int.reduceEq, ↓Int.reduceLT, ↓Int.reduceLE, ↓reduceIte, ho]
    refine runs_for (fun i : Nat => (⟨[(2, .pb 1048578 0), (5, .h 2097472), (15, .nils), (16, .int .i64 0), (17, .int .i64 i)],
      [(1048578, some ⟨true, .box [.int .i64 0, .int .i64 0, .int .i64 0, .bool false, .int .i64 0, .int .i64 0, .nils, .nils]⟩), (2097472, some ⟨true, .row 41 8 []⟩)], 1⟩ : St)) 0 ?_ ?_ ?_
    · simp -implicitDefEqProofs (maxSteps := 4000000) (disch := omega) only [go_sem, go_sem_proc, dr, Nat.min_def, ↓Nat.reduceBEq, ↓Nat.reduceEqDiff, ↓Nat.reduceLT, ↓Nat.reduceLeDiff, ↓Int.reduceEq, ↓Int.reduceLT, ↓Int.reduceLE, ↓reduceIte]
    · intro i hi; omega
    · simp -implicitDefEqProofs (maxSteps := 4000000) (disch := omega) only [go_sem, go_sem_proc, dr, Nat.min_def, ↓Nat.reduceBEq, ↓Nat.reduceEqDiff, ↓Nat.reduceLT, ↓Nat.reduceLeDiff, ↓Int.reduceEq, ↓Int.reduceLT, ↓Int.reduceLE, ↓reduceIte, hany]
  · simp -implicitDefEqProofs (maxSteps := 4000000) (disch := omega) only [go_sem, go_sem_proc, dr, Nat.min_def, ↓Nat.reduceBEq, ↓Nat.reduceEqDiff, ↓Nat.reduceLT, ↓Nat.reduceLeDiff, ↓Int.reduceEq, ↓Int.reduceLT, ↓Int.reduceLE, ↓reduceIte, ho]
    refine runs_for (fun i : Nat => (⟨[(2, .pb 1048578 0), (5, .h 2097472), (15, .h 2098112), (16, .int .i64 A.length), (17, .int .i64 i)],
      [(1048578, some ⟨true, .box [.int .i64 0, .int .i64 0, .int .i64 0, .bool false, .int .i64 0, .int .i64 0, .nils, .nils]⟩), (2097472, some ⟨true, .row 41 8 (((A.take i).map andN).map Prd.pv)⟩), (2098112, some ⟨true, .row 39 1 (A.map cv)⟩)], 1⟩ : St)) A.length ?_ ?_ ?_
    · simp -implicitDefEqProofs (maxSteps := 4000000) (disch := omega) only [go_sem, go_sem_proc, dr, Nat.min_def, ↓Nat.reduceBEq, ↓Nat.reduceEqDiff, ↓Nat.reduceLT, ↓Nat.reduceLeDiff, ↓Int.reduceEq, ↓Int.reduceLT, ↓Int.reduceLE, ↓reduceIte]
    · intro i hi
      obtain ⟨c, hc, hcm, ht⟩ := take_get hi
      have hall := All_spec (l := c.2) c.1 (by have := g.ok rfl c hcm; omega) (g.sm c hcm)
      simp -implicitDefEqProofs (maxSteps := 4000000) (disch := omega) only [go_sem, go_sem_proc, dr, Nat.min_def, ↓Nat.reduceBEq, ↓Nat.reduceEqDiff, ↓Nat.reduceLT, ↓Nat.reduceLeDiff, ↓Int.reduceEq, ↓Int.reduceLT, ↓Int.reduceLE, ↓reduceIte, hc, cv, hall, ht, andN_pv, List.map_append]
    · simp -implicitDefEqProofs (maxSteps := 4000000) (disch := omega) only [go_sem, go_sem_proc, dr, Nat.min_def, ↓Nat.reduceBEq, ↓Nat.reduceEqDiff, ↓Nat.reduceLT, ↓Nat.reduceLeDiff, ↓Int.reduceEq, ↓Int.reduceLT, ↓Int.reduceLE, ↓reduceIte, take_all, hany]
theorem still2_pv (q : Prd) : q.still.still.pv = [.int .i64 q.kind, .int .i64 q.col, .int .i64 q.op, .bool q.val.null, .int .i64 q.val.kind, .int .i64 q.val.int, .sl 1 (ints .u8 (bz q.val.bytes)), .sl 8 (((q.list.map Prd.still).map Prd.still).map Prd.pv)] := by
  cases q; rw [still_mk, still_mk, pv_mk]; rfl
/-- the first that asks for one key -/
def firstKey : List Prd → Option Int
  | [] => none
  | p :: r => if p.kind = 2 ∧ p.col = 0 ∧ p.op = 1 then some p.val.int else firstKey r
def keyN (p : Prd) : Option Int := if (formN false p).2 then (match (formN false p).1 with | [c] => firstKey c.2 | _ => none) else none
def keyPV : Option Int → PV
  | some k => .tup [.int .i64 k, .bool true]
  | none => .tup [.int .i64 0, .bool false]
end Go.Proofs.Ytjhdickfkpcccaa.D
