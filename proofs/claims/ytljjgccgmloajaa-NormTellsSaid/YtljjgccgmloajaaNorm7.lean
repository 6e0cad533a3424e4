/- One form: Norm and Key. -/
import Derived.Test.YtljjgccgmloajaaNorm6
namespace Go.Proofs.Ytljjgccgmloajaa.D
open Go Go.Den
set_option linter.unusedSimpArgs false
set_option linter.unusedVariables false
set_option maxRecDepth 20000
set_option maxHeartbeats 4000000
def andN (c : Cj) : Prd := .mk 4 0 0 valZ false (c.2.map Prd.still)
def orN (A : Al) : Prd := .mk 5 0 0 valZ false ((A.map andN).map Prd.still)
theorem andN_pv (c : Cj) : (andN c).pv = [.int .i64 4, .int .i64 0, .int .i64 0, .bool false, .int .i64 0, .int .i64 0, .nils, .sl 8 ((c.2.map Prd.still).map Prd.pv)] := by
  rw [andN, pv_mk]; rfl
theorem andN_Sm {c : Cj} (h1 : c.2.length ≤ 1000000) (h : ∀ q ∈ c.2, Sm q) : Sm (andN c) := by
  refine .mk (by simp [bz, valZ]) (by simpa using h1) fun q hq => ?_
  obtain ⟨x, hx, rfl⟩ := List.mem_map.1 hq
  exact Sm_still (h x hx)
theorem Norm_no {p : Prd} (hp : Sm p) (hc : cnt p ≤ 10000) (h : (formN false p).2 = false) : dw E 7 [.agg [.int .i64 p.kind, .int .i64 p.col, .int .i64 p.op, .bool p.val.null, .int .i64 p.val.kind, .int .i64 p.val.int, bl p.val.bytes, pl p.nil p.list]] [] =
    some (.tup [.agg [.int .i64 0, .int .i64 0, .int .i64 0, .bool false, .int .i64 0, .int .i64 0, .nils, .nils], .bool false], []) := by
  refine dw_in (fn := Try.f7) rfl body7 (by simp) ?_
  obtain ⟨lf, hlf, ho⟩ := of_spec hp hc false
  rw [h] at ho
  rcases hlf with ⟨rfl, _⟩ | rfl
  · simp -implicitDefEqProofs (maxSteps := 4000000) (disch := omega) only [go_sem, go_sem_proc, dr, Nat.min_def, ↓Nat.reduceBEq, ↓Nat.reduceEqDiff, ↓Nat.reduceLT, ↓Nat.reduceLeDiff, ↓Int.reduceEq, ↓Int.reduceLT, ↓Int.reduceLE, ↓reduceIte, ho]
  · simp -implicitDefEqProofs (maxSteps := 4000000) (disch := omega) only [go_sem, go_sem_proc, dr, Nat.min_def, ↓Nat.reduceBEq, ↓Nat.reduceEqDiff, ↓Nat.reduceLT, ↓Nat.reduceLeDiff, ↓Int.reduceEq, ↓Int.reduceLT, ↓Int.reduceLE, ↓reduceIte, ho]
theorem Norm_yes {p : Prd} (hp : Sm p) (hc : cnt p ≤ 10000) (h : (formN false p).2 = true) : dw E 7 [.agg [.int .i64 p.kind, .int .i64 p.col, .int .i64 p.op, .bool p.val.null, .int .i64 p.val.kind, .int .i64 p.val.int, bl p.val.bytes, pl p.nil p.list]] [] =
    some (.tup [.agg [.int .i64 5, .int .i64 0, .int .i64 0, .bool false, .int .i64 0, .int .i64 0, .nils, .nr 32 8 (((((formN false p).1).map andN).map Prd.still).map Prd.pv)], .bool true], []) := by
  refine dw_in (fn := Try.f7) rfl body7 (by simp) ?_
  obtain ⟨lf, hlf, ho⟩ := of_spec hp hc false
  have g := form_Gd hp false
  generalize formN false p = Y at g hlf ho h ⊢
  obtain ⟨A, a⟩ := Y
  dsimp only at h
  subst h
  have hA : A.length ≤ 330000 := by have := g.len; dsimp only at this; omega
  have hS : ∀ q ∈ A.map andN, Sm q := fun q hq => by
    obtain ⟨c, hc, rfl⟩ := List.mem_map.1 hq
    exact andN_Sm (by have := g.ok rfl c hc; omega) (g.sm c hc)
  have hany := Any_spec (l := A.map andN) false (by rw [List.length_map]; omega) hS
  rw [pl_false] at hany
  rcases hlf with ⟨rfl, hA0⟩ | rfl
  · dsimp only at hA0
    subst hA0
    simp only [List.map_nil] at hany
    simp -implicitDefEqProofs (maxSteps := 4000000) (disch := omega) only [go_sem, go_sem_proc, dr, Nat.min_def, ↓Nat.reduceBEq, ↓Nat.reduceEqDiff, ↓Nat.reduceLT, ↓Nat.reduceLeDiff, ↓Int.reduceEq, ↓Int.reduceLT, ↓Int.reduceLE, ↓reduceIte, ho]
    refine runs_for (fun i : Nat => (⟨[(2, .pb 1048578 0), (5, .h 2097472), (15, .nils), (16, .int .i64 0), (17, .int .i64 i)],
      [(1048578, some ⟨true, .box [.int .i64 0, .int .i64 0, .int .i64 0, .bool false, .int .i64 0, .int .i64 0, .nils, .nils]⟩), (2097472, some ⟨true, .row 32 8 []⟩)], 1⟩ : St)) 0 ?_ ?_ ?_
    · simp -implicitDefEqProofs (maxSteps := 4000000) (disch := omega) only [go_sem, go_sem_proc, dr, Nat.min_def, ↓Nat.reduceBEq, ↓Nat.reduceEqDiff, ↓Nat.reduceLT, ↓Nat.reduceLeDiff, ↓Int.reduceEq, ↓Int.reduceLT, ↓Int.reduceLE, ↓reduceIte]
    · intro i hi; omega
    · simp -implicitDefEqProofs (maxSteps := 4000000) (disch := omega) only [go_sem, go_sem_proc, dr, Nat.min_def, ↓Nat.reduceBEq, ↓Nat.reduceEqDiff, ↓Nat.reduceLT, ↓Nat.reduceLeDiff, ↓Int.reduceEq, ↓Int.reduceLT, ↓Int.reduceLE, ↓reduceIte, hany]
  · simp -implicitDefEqProofs (maxSteps := 4000000) (disch := omega) only [go_sem, go_sem_proc, dr, Nat.min_def, ↓Nat.reduceBEq, ↓Nat.reduceEqDiff, ↓Nat.reduceLT, ↓Nat.reduceLeDiff, ↓Int.reduceEq, ↓Int.reduceLT, ↓Int.reduceLE, ↓reduceIte, ho]
    refine runs_for (fun i : Nat => (⟨[(2, .pb 1048578 0), (5, .h 2097472), (15, .h 2098112), (16, .int .i64 A.length), (17, .int .i64 i)],
      [(1048578, some ⟨true, .box [.int .i64 0, .int .i64 0, .int .i64 0, .bool false, .int .i64 0, .int .i64 0, .nils, .nils]⟩), (2097472, some ⟨true, .row 32 8 (((A.take i).map andN).map Prd.pv)⟩), (2098112, some ⟨true, .row 30 1 (A.map cv)⟩)], 1⟩ : St)) A.length ?_ ?_ ?_
    · simp -implicitDefEqProofs (maxSteps := 4000000) (disch := omega) only [go_sem, go_sem_proc, dr, Nat.min_def, ↓Nat.reduceBEq, ↓Nat.reduceEqDiff, ↓Nat.reduceLT, ↓Nat.reduceLeDiff, ↓Int.reduceEq, ↓Int.reduceLT, ↓Int.reduceLE, ↓reduceIte]
    · intro i hi
      obtain ⟨c, hc, hcm, ht⟩ := take_get hi
      have hall := All_spec (l := c.2) c.1 (by have := g.ok rfl c hcm; omega) (g.sm c hcm)
      simp -implicitDefEqProofs (maxSteps := 4000000) (disch := omega) only [go_sem, go_sem_proc, dr, Nat.min_def, ↓Nat.reduceBEq, ↓Nat.reduceEqDiff, ↓Nat.reduceLT, ↓Nat.reduceLeDiff, ↓Int.reduceEq, ↓Int.reduceLT, ↓Int.reduceLE, ↓reduceIte, hc, cv, hall, ht, andN_pv, List.map_append]
    · simp -implicitDefEqProofs (maxSteps := 4000000) (disch := omega) only [go_sem, go_sem_proc, dr, Nat.min_def, ↓Nat.reduceBEq, ↓Nat.reduceEqDiff, ↓Nat.reduceLT, ↓Nat.reduceLeDiff, ↓Int.reduceEq, ↓Int.reduceLT, ↓Int.reduceLE, ↓reduceIte, take_all, hany]
theorem still2_pv (q : Prd) : q.still.still.pv = [.int .i64 q.kind, .int .i64 q.col, .int .i64 q.op, .bool q.val.null, .int .i64 q.val.kind, .int .i64 q.val.int, .sl 1 (ints .u8 (bz q.val.bytes)), .sl 8 (((q.list.map Prd.still).map Prd.still).map Prd.pv)] := by
  cases q; rw [still_mk, still_mk, pv_mk]; rfl
/-- the first that asks for one key -/
def firstKey : List Prd → Option Int
  | [] => none
  | p :: r => if p.kind = 2 ∧ p.col = 0 ∧ p.op = 1 then some p.val.int else firstKey r
def keyN (p : Prd) : Option Int := if (formN false p).2 then (match (formN false p).1 with | [c] => firstKey c.2 | _ => none) else none
def keyPV : Option Int → PV
  | some k => .tup [.int .i64 k, .bool true]
  | none => .tup [.int .i64 0, .bool false]
theorem Key_spec {p : Prd} (hp : Sm p) (hc : cnt p ≤ 10000) : dw E 9 [.agg [.int .i64 p.kind, .int .i64 p.col, .int .i64 p.op, .bool p.val.null, .int .i64 p.val.kind, .int .i64 p.val.int, bl p.val.bytes, pl p.nil p.list]] [] = some (keyPV (keyN p), []) := by
  unfold keyN
  cases h : (formN false p).2 with
  | false =>
    refine dw_in (fn := Try.f9) rfl body9 (by simp) ?_
    simp -implicitDefEqProofs (maxSteps := 4000000) (disch := omega) only [go_sem, go_sem_proc, dr, Nat.min_def, ↓Nat.reduceBEq, ↓Nat.reduceEqDiff, ↓Nat.reduceLT, ↓Nat.reduceLeDiff, ↓Int.reduceEq, ↓Int.reduceLT, ↓Int.reduceLE, ↓reduceIte, Norm_no hp hc h]
    rfl
  | true =>
    have hN := Norm_yes hp hc h
    have g := form_Gd hp false
    generalize formN false p = Y at g h hN ⊢
    obtain ⟨A, a⟩ := Y
    dsimp only at h hN ⊢
    subst h
    rcases A with _ | ⟨c, _ | ⟨c2, r⟩⟩
    · refine dw_in (fn := Try.f9) rfl body9 (by simp) ?_
      simp -implicitDefEqProofs (maxSteps := 4000000) (disch := omega) only [go_sem, go_sem_proc, dr, Nat.min_def, ↓Nat.reduceBEq, ↓Nat.reduceEqDiff, ↓Nat.reduceLT, ↓Nat.reduceLeDiff, ↓Int.reduceEq, ↓Int.reduceLT, ↓Int.reduceLE, ↓reduceIte, hN]
      rfl
    · refine dw_in (fn := Try.f9) rfl body9 (by simp) ?_
      simp only [List.map_cons, List.map_nil] at hN
      rw [show (andN c).still.pv = [.int .i64 4, .int .i64 0, .int .i64 0, .bool false, .int .i64 0, .int .i64 0, .sl 1 [], .sl 8 (((c.2.map Prd.still).map Prd.still).map Prd.pv)] by rw [andN, still_mk, pv_mk]; rfl] at hN
      have hcl := g.ok rfl c List.mem_cons_self
      simp -implicitDefEqProofs (maxSteps := 4000000) (disch := omega) only [go_sem, go_sem_proc, dr, Nat.min_def, ↓Nat.reduceBEq, ↓Nat.reduceEqDiff, ↓Nat.reduceLT, ↓Nat.reduceLeDiff, ↓Int.reduceEq, ↓Int.reduceLT, ↓Int.reduceLE, ↓reduceIte, hN]
      refine runs_any (fun i : Nat => (⟨[(25, .sl 8 (((c.2.map Prd.still).map Prd.still).map Prd.pv)), (26, .int .i64 c.2.length), (27, .int .i64 i)], [], 1⟩ : St)) (fun i => c.2.length - i) 0
        (fun i => i ≤ c.2.length ∧ firstKey c.2 = firstKey (c.2.drop i)) ⟨Nat.zero_le _, by simp⟩ ?_ ?_
      · simp -implicitDefEqProofs (maxSteps := 4000000) (disch := omega) only [go_sem, go_sem_proc, dr, Nat.min_def, ↓Nat.reduceBEq, ↓Nat.reduceEqDiff, ↓Nat.reduceLT, ↓Nat.reduceLeDiff, ↓Int.reduceEq, ↓Int.reduceLT, ↓Int.reduceLE, ↓reduceIte]
      · rintro i ⟨hi, he⟩
        by_cases hlt : i < c.2.length
        · obtain ⟨q, hq, hqm, _⟩ := take_get hlt
          have hd : c.2.drop i = q :: c.2.drop (i + 1) := by rw [List.drop_eq_getElem_cons hlt, (List.getElem?_eq_some_iff.1 hq).2]
          rw [hd, firstKey] at he
          have hq : ((c.2.map Prd.still).map Prd.still)[i]? = some q.still.still := by simp [hq]
          by_cases h1 : q.kind = 2
          · by_cases h2 : q.col = 0
            · by_cases h3 : q.op = 1
              · rw [if_pos ⟨h1, h2, h3⟩] at he
                have h1 := eq_true h1
                have h2 := eq_true h2
                have h3 := eq_true h3
                simp -implicitDefEqProofs (maxSteps := 4000000) (disch := omega) only [go_sem, go_sem_proc, dr, Nat.min_def, ↓Nat.reduceBEq, ↓Nat.reduceEqDiff, ↓Nat.reduceLT, ↓Nat.reduceLeDiff, ↓Int.reduceEq, ↓Int.reduceLT, ↓Int.reduceLE, ↓reduceIte, hq, still2_pv, h1, h2, h3, he, keyPV]
              · rw [if_neg fun h => h3 h.2.2] at he
                have h1 := eq_true h1
                have h2 := eq_true h2
                simp -implicitDefEqProofs (maxSteps := 4000000) (disch := omega) only [go_sem, go_sem_proc, dr, Nat.min_def, ↓Nat.reduceBEq, ↓Nat.reduceEqDiff, ↓Nat.reduceLT, ↓Nat.reduceLeDiff, ↓Int.reduceEq, ↓Int.reduceLT, ↓Int.reduceLE, ↓reduceIte, hq, still2_pv, h1, h2, h3]
                exact ⟨i + 1, rfl, ⟨by omega, he⟩, by show c.2.length - (i + 1) < c.2.length - i; omega⟩
            · rw [if_neg fun h => h2 h.2.1] at he
              have h1 := eq_true h1
              simp -implicitDefEqProofs (maxSteps := 4000000) (disch := omega) only [go_sem, go_sem_proc, dr, Nat.min_def, ↓Nat.reduceBEq, ↓Nat.reduceEqDiff, ↓Nat.reduceLT, ↓Nat.reduceLeDiff, ↓Int.reduceEq, ↓Int.reduceLT, ↓Int.reduceLE, ↓reduceIte, hq, still2_pv, h1, h2]
              exact ⟨i + 1, rfl, ⟨by omega, he⟩, by show c.2.length - (i + 1) < c.2.length - i; omega⟩
          · rw [if_neg fun h => h1 h.1] at he
            simp -implicitDefEqProofs (maxSteps := 4000000) (disch := omega) only [go_sem, go_sem_proc, dr, Nat.min_def, ↓Nat.reduceBEq, ↓Nat.reduceEqDiff, ↓Nat.reduceLT, ↓Nat.reduceLeDiff, ↓Int.reduceEq, ↓Int.reduceLT, ↓Int.reduceLE, ↓reduceIte, hq, still2_pv, h1]
            exact ⟨i + 1, rfl, ⟨by omega, he⟩, by show c.2.length - (i + 1) < c.2.length - i; omega⟩
        · have hd : c.2.drop i = [] := List.drop_eq_nil_of_le (by omega)
          rw [hd, firstKey] at he
          simp -implicitDefEqProofs (maxSteps := 4000000) (disch := omega) only [go_sem, go_sem_proc, dr, Nat.min_def, ↓Nat.reduceBEq, ↓Nat.reduceEqDiff, ↓Nat.reduceLT, ↓Nat.reduceLeDiff, ↓Int.reduceEq, ↓Int.reduceLT, ↓Int.reduceLE, ↓reduceIte, he, keyPV]
    · refine dw_in (fn := Try.f9) rfl body9 (by simp) ?_
      have hAl : r.length ≤ 330000 := by have := g.len; simp only [List.length_cons] at this; omega
      simp only [List.map_cons] at hN
      simp -implicitDefEqProofs (maxSteps := 4000000) (disch := omega) only [go_sem, go_sem_proc, dr, Nat.min_def, ↓Nat.reduceBEq, ↓Nat.reduceEqDiff, ↓Nat.reduceLT, ↓Nat.reduceLeDiff, ↓Int.reduceEq, ↓Int.reduceLT, ↓Int.reduceLE, ↓reduceIte, hN, keyPV]
end Go.Proofs.Ytljjgccgmloajaa.D
