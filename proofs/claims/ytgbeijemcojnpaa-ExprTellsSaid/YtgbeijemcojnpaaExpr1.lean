/- Ops: slices that are nil or not; sets, aggregates, ops; functions that are asked of each. -/
import Derived.Test.YtgbeijemcojnpaaPred4
namespace Go.Proofs.Ytgbeijemcojnpaa.D
open Go Go.Den
set_option linter.unusedSimpArgs false
set_option linter.unusedVariables false
set_option maxRecDepth 20000
set_option maxHeartbeats 8000000
/-- the rows of bools -/
theorem bb : (type_of% @decide_true) ∧ (type_of% @decide_false) ∧ (type_of% @Bool.true_and) ∧ (type_of% @Bool.false_and) ∧ (type_of% @Bool.and_true) ∧ (type_of% @Bool.and_false) ∧ (type_of% @Bool.or_true) ∧ (type_of% @Bool.true_or) ∧ (type_of% @Bool.or_false) ∧ (type_of% @Bool.false_or) ∧ (type_of% @Bool.not_true) ∧ (type_of% @Bool.not_false) := ⟨@decide_true, @decide_false, @Bool.true_and, @Bool.false_and, @Bool.and_true, @Bool.and_false, @Bool.or_true, @Bool.true_or, @Bool.or_false, @Bool.false_or, @Bool.not_true, @Bool.not_false⟩
/-- a slice's leaf: nil, or not -/
def sf (n : Bool) (sz : Nat) (L : List (List PV)) : PV := if n && L.isEmpty then .nils else .sl sz L
theorem sf_cases (n : Bool) (sz : Nat) (L : List (List PV)) : (sf n sz L = .nils ∧ L = []) ∨ sf n sz L = .sl sz L := by
  unfold sf
  cases L with
  | nil => cases n <;> simp
  | cons a r => right; simp
section
variable {n : Bool} {sz : Nat} {L : List (List PV)}
theorem sf_get {i : Nat} (h : i < L.length) : sf n sz L = .sl sz L := by
  rcases sf_cases n sz L with ⟨_, h2⟩ | h'
  · subst h2; exact absurd h (Nat.not_lt_zero i)
  · exact h'
theorem plainLeaf_sf : plainLeaf (sf n sz L) = true := by rcases sf_cases n sz L with ⟨h, _⟩ | h <;> rw [h] <;> rfl
theorem okLeaf_sf : okLeaf (sf n sz L) = true := by rcases sf_cases n sz L with ⟨h, _⟩ | h <;> rw [h] <;> rfl
theorem leavesO_sf : leavesO (sf n sz L) = some [sf n sz L] := by rcases sf_cases n sz L with ⟨h, _⟩ | h <;> rw [h] <;> rfl
theorem sealLeaf_sf : sealLeaf (sf n sz L) = .ret (sf n sz L, []) := by rcases sf_cases n sz L with ⟨h, _⟩ | h <;> rw [h] <;> rfl
theorem sealV_sf : sealV (sf n sz L) = .ret (sf n sz L, []) := by rcases sf_cases n sz L with ⟨h, _⟩ | h <;> rw [h] <;> rfl
theorem expLeaf_sf (S : St) (u : List Nat) : expLeaf S u (sf n sz L) = some (sf n sz L, u) := by rcases sf_cases n sz L with ⟨h, _⟩ | h <;> rw [h] <;> rfl
theorem expV_sf (S : St) (u : List Nat) : expV S u (sf n sz L) = some (sf n sz L, u) := by rcases sf_cases n sz L with ⟨h, _⟩ | h <;> rw [h] <;> rfl
theorem normLeaf_sf (S : St) (dup : Nat → Bool) (t j : Nat) : normLeaf S dup t j none (sf n sz L) = some (sf n sz L, [], [], []) := by rcases sf_cases n sz L with ⟨h, _⟩ | h <;> rw [h] <;> rfl
theorem normV_sf (S : St) (dup : Nat → Bool) (x : NI) : normV S dup x (sf n sz L) = normOne x (normLeaf S dup x.t 0 (get x.rows 0) (sf n sz L)) := by rcases sf_cases n sz L with ⟨h, _⟩ | h <;> rw [h] <;> rfl
theorem heldV_sf (S : St) : heldV S (sf n sz L) = [] := by rcases sf_cases n sz L with ⟨h, _⟩ | h <;> rw [h] <;> rfl
theorem heldP_sf (S : St) (r : List PV) : heldP S (sf n sz L :: r) = heldP S r := by rcases sf_cases n sz L with ⟨h, _⟩ | h <;> rw [h] <;> rfl
theorem lendA_sf (r : List PV) (bs : List (Nat × List PV)) : lendA (sf n sz L :: r) bs = (lendA r bs).bind fun y => .ret (sf n sz L :: y.1, y.2.1, y.2.2) := by rcases sf_cases n sz L with ⟨h, _⟩ | h <;> rw [h] <;> rfl
theorem impLeaf_sf (fid j : Nat) : impLeaf fid j (sf n sz L) = (sf n sz L, [], j) := by rcases sf_cases n sz L with ⟨h, _⟩ | h <;> rw [h] <;> rfl
theorem impV_sf (fid j : Nat) : impV fid j (sf n sz L) = (sf n sz L, [], j) := by rcases sf_cases n sz L with ⟨h, _⟩ | h <;> rw [h] <;> rfl
theorem impR_sf (fid j : Nat) : impR fid j (sf n sz L) = (sf n sz L, [], j) := by rcases sf_cases n sz L with ⟨h, _⟩ | h <;> rw [h] <;> rfl
theorem lenS_sf (P : Program) (t : Option TypeId) : lenS P t (sf n sz L) = lenS' P t (sf n sz L) := rfl
theorem lenOf_sf : lenOf (sf n sz L) = .ret L.length := by rcases sf_cases n sz L with ⟨h, h2⟩ | h <;> rw [h] <;> simp_all [lenOf]
theorem elemsOf_sf : elemsOf sz (sf n sz L) = .ret L := by rcases sf_cases n sz L with ⟨h, h2⟩ | h <;> rw [h] <;> simp_all [elemsOf]
end
attribute [go_sem] plainLeaf_sf okLeaf_sf leavesO_sf sealLeaf_sf sealV_sf expLeaf_sf expV_sf normLeaf_sf normV_sf heldV_sf heldP_sf lendA_sf impLeaf_sf impV_sf impR_sf lenS_sf lenOf_sf elemsOf_sf
structure SetN where
  col : Int
  add : Bool
  val : Val
def SetN.pv (x : SetN) : List PV := [.int .i64 x.col, .bool x.add, .bool x.val.null, .int .i64 x.val.kind, .int .i64 x.val.int, bl x.val.bytes]
structure AggN where
  kind : Int
  col : Int
def AggN.pv (x : AggN) : List PV := [.int .i64 x.kind, .int .i64 x.col]
def intPV (x : Int) : List PV := [.int .i64 x]
structure OpN where
  kind : Int
  rn : Bool
  row : List Val
  pred : Prd
  sn : Bool
  sets : List SetN
  cn : Bool
  cols : List Int
  group : Int
  an : Bool
  aggs : List AggN
/-- the cells of an op -/
def OpN.pv (o : OpN) : List PV := [.int .i64 o.kind, sf o.rn 4 (o.row.map Val.pv), .int .i64 o.pred.kind, .int .i64 o.pred.col, .int .i64 o.pred.op, .bool o.pred.val.null, .int .i64 o.pred.val.kind, .int .i64 o.pred.val.int, bl o.pred.val.bytes, pl o.pred.nil o.pred.list, sf o.sn 6 (o.sets.map SetN.pv), sf o.cn 1 (o.cols.map intPV), .int .i64 o.group, sf o.an 2 (o.aggs.map AggN.pv)]
def idxB {α : Type} (φ : α → Bool) : List α → Nat → Int
  | [], _ => -1
  | x :: r, i => if φ x then i else idxB φ r (i + 1)
theorem idxB_any {α : Type} (φ : α → Bool) : ∀ (L : List α) (i : Nat), (L.any φ = true ∧ 0 ≤ idxB φ L i) ∨ (L.any φ = false ∧ idxB φ L i = -1)
  | [], i => .inr ⟨rfl, rfl⟩
  | x :: r, i => by
    rw [List.any_cons, idxB]
    cases hx : φ x with
    | true => simp
    | false =>
      rw [if_neg (by simp), Bool.false_or]
      exact idxB_any φ r (i + 1)
theorem Index_set {n : Bool} {L : List SetN} {C : List PV} {φ : SetN → Bool} (hl : L.length ≤ 9223372036854775807) (hφ : ∀ x ∈ L, dw E 40 [.agg [.int .i64 x.col, .bool x.add, .bool x.val.null, .int .i64 x.val.kind, .int .i64 x.val.int, bl x.val.bytes], .pc C] [] = some (.bool (φ x), [])) :
    dw E 52 [sf n 6 (L.map SetN.pv), .fn 40 [.pc C]] [] = some (.int .i64 (idxB φ L 0), []) := by
  refine dw_in (fn := Try.f52) rfl body52 (by simp) ?_
  simp -implicitDefEqProofs (maxSteps := 4000000) (disch := omega) only [go_sem, go_sem_proc, dr, Nat.min_def, ↓Nat.reduceBEq, ↓Nat.reduceEqDiff, ↓Nat.reduceLT, ↓Nat.reduceLeDiff, ↓Int.reduceEq, ↓Int.reduceLT, ↓Int.reduceLE, ↓reduceIte]
  refine runs_any (fun i : Nat => (⟨[(0, sf n 6 (L.map SetN.pv)), (1, .fn 40 [.pc C]), (7, .int .i64 L.length), (8, .int .i64 i)], [], 1⟩ : St)) (fun i => L.length - i) 0 (fun i => i ≤ L.length ∧ idxB φ L 0 = idxB φ (L.drop i) i) ⟨Nat.zero_le _, rfl⟩ ?_ ?_
  · simp -implicitDefEqProofs (maxSteps := 4000000) (disch := omega) only [go_sem, go_sem_proc, dr, Nat.min_def, ↓Nat.reduceBEq, ↓Nat.reduceEqDiff, ↓Nat.reduceLT, ↓Nat.reduceLeDiff, ↓Int.reduceEq, ↓Int.reduceLT, ↓Int.reduceLE, ↓reduceIte]
  · rintro i ⟨hi, he⟩
    by_cases hlt : i < L.length
    · obtain ⟨x, hx, hm, _⟩ := take_get hlt
      have hd : L.drop i = x :: L.drop (i + 1) := by rw [List.drop_eq_getElem_cons hlt, (List.getElem?_eq_some_iff.1 hx).2]
      rw [hd, idxB] at he
      have hP := hφ x hm
      have hg : sf n 6 (L.map SetN.pv) = .sl 6 (L.map SetN.pv) := sf_get (i := i) (by rw [List.length_map]; exact hlt)
      clear hφ hd hm
      cases hk : φ x with
      | true =>
        rw [hk] at he hP
        rw [if_pos rfl] at he
        simp -implicitDefEqProofs (maxSteps := 4000000) (disch := omega) only [go_sem, go_sem_proc, dr, Nat.min_def, ↓Nat.reduceBEq, ↓Nat.reduceEqDiff, ↓Nat.reduceLT, ↓Nat.reduceLeDiff, ↓Int.reduceEq, ↓Int.reduceLT, ↓Int.reduceLE, ↓reduceIte, hx, hg, SetN.pv, hP, he]
      | false =>
        rw [hk] at he hP
        rw [if_neg (by simp)] at he
        simp -implicitDefEqProofs (maxSteps := 4000000) (disch := omega) only [go_sem, go_sem_proc, dr, Nat.min_def, ↓Nat.reduceBEq, ↓Nat.reduceEqDiff, ↓Nat.reduceLT, ↓Nat.reduceLeDiff, ↓Int.reduceEq, ↓Int.reduceLT, ↓Int.reduceLE, ↓reduceIte, hx, hg, SetN.pv, hP]
        exact ⟨i + 1, rfl, ⟨hlt, he⟩, by omega⟩
    · have hd : L.drop i = [] := List.drop_eq_nil_of_le (by omega)
      rw [hd, idxB] at he
      clear hφ hd
      simp -implicitDefEqProofs (maxSteps := 4000000) (disch := omega) only [go_sem, go_sem_proc, dr, Nat.min_def, ↓Nat.reduceBEq, ↓Nat.reduceEqDiff, ↓Nat.reduceLT, ↓Nat.reduceLeDiff, ↓Int.reduceEq, ↓Int.reduceLT, ↓Int.reduceLE, ↓reduceIte, he]
theorem Contains_set {n : Bool} {L : List SetN} {C : List PV} {φ : SetN → Bool} (hl : L.length ≤ 9223372036854775807) (hφ : ∀ x ∈ L, dw E 40 [.agg [.int .i64 x.col, .bool x.add, .bool x.val.null, .int .i64 x.val.kind, .int .i64 x.val.int, bl x.val.bytes], .pc C] [] = some (.bool (φ x), [])) :
    dw E 39 [sf n 6 (L.map SetN.pv), .fn 40 [.pc C]] [] = some (.bool (L.any φ), []) := by
  have hI := Index_set (n := n) hl hφ
  clear hφ
  refine dw_in (fn := Try.f39) rfl body39 (by simp) ?_
  rcases idxB_any φ L 0 with ⟨h1, h2⟩ | ⟨h1, h2⟩
  · rw [h1]
    generalize idxB φ L 0 = v at hI h2
    simp -implicitDefEqProofs (maxSteps := 4000000) (disch := omega) only [go_sem, go_sem_proc, dr, Nat.min_def, ↓Nat.reduceBEq, ↓Nat.reduceEqDiff, ↓Nat.reduceLT, ↓Nat.reduceLeDiff, ↓Int.reduceEq, ↓Int.reduceLT, ↓Int.reduceLE, ↓reduceIte, hI]
  · rw [h1]
    rw [h2] at hI
    simp -implicitDefEqProofs (maxSteps := 4000000) (disch := omega) only [go_sem, go_sem_proc, dr, Nat.min_def, ↓Nat.reduceBEq, ↓Nat.reduceEqDiff, ↓Nat.reduceLT, ↓Nat.reduceLeDiff, ↓Int.reduceEq, ↓Int.reduceLT, ↓Int.reduceLE, ↓reduceIte, hI]
theorem Index_agg {n : Bool} {L : List AggN} {C : List PV} {φ : AggN → Bool} (hl : L.length ≤ 9223372036854775807) (hφ : ∀ x ∈ L, dw E 24 [.agg [.int .i64 x.kind, .int .i64 x.col], .pc C] [] = some (.bool (φ x), [])) :
    dw E 43 [sf n 2 (L.map AggN.pv), .fn 24 [.pc C]] [] = some (.int .i64 (idxB φ L 0), []) := by
  refine dw_in (fn := Try.f43) rfl body43 (by simp) ?_
  simp -implicitDefEqProofs (maxSteps := 4000000) (disch := omega) only [go_sem, go_sem_proc, dr, Nat.min_def, ↓Nat.reduceBEq, ↓Nat.reduceEqDiff, ↓Nat.reduceLT, ↓Nat.reduceLeDiff, ↓Int.reduceEq, ↓Int.reduceLT, ↓Int.reduceLE, ↓reduceIte]
  refine runs_any (fun i : Nat => (⟨[(0, sf n 2 (L.map AggN.pv)), (1, .fn 24 [.pc C]), (7, .int .i64 L.length), (8, .int .i64 i)], [], 1⟩ : St)) (fun i => L.length - i) 0 (fun i => i ≤ L.length ∧ idxB φ L 0 = idxB φ (L.drop i) i) ⟨Nat.zero_le _, rfl⟩ ?_ ?_
  · simp -implicitDefEqProofs (maxSteps := 4000000) (disch := omega) only [go_sem, go_sem_proc, dr, Nat.min_def, ↓Nat.reduceBEq, ↓Nat.reduceEqDiff, ↓Nat.reduceLT, ↓Nat.reduceLeDiff, ↓Int.reduceEq, ↓Int.reduceLT, ↓Int.reduceLE, ↓reduceIte]
  · rintro i ⟨hi, he⟩
    by_cases hlt : i < L.length
    · obtain ⟨x, hx, hm, _⟩ := take_get hlt
      have hd : L.drop i = x :: L.drop (i + 1) := by rw [List.drop_eq_getElem_cons hlt, (List.getElem?_eq_some_iff.1 hx).2]
      rw [hd, idxB] at he
      have hP := hφ x hm
      have hg : sf n 2 (L.map AggN.pv) = .sl 2 (L.map AggN.pv) := sf_get (i := i) (by rw [List.length_map]; exact hlt)
      clear hφ hd hm
      cases hk : φ x with
      | true =>
        rw [hk] at he hP
        rw [if_pos rfl] at he
        simp -implicitDefEqProofs (maxSteps := 4000000) (disch := omega) only [go_sem, go_sem_proc, dr, Nat.min_def, ↓Nat.reduceBEq, ↓Nat.reduceEqDiff, ↓Nat.reduceLT, ↓Nat.reduceLeDiff, ↓Int.reduceEq, ↓Int.reduceLT, ↓Int.reduceLE, ↓reduceIte, hx, hg, AggN.pv, hP, he]
      | false =>
        rw [hk] at he hP
        rw [if_neg (by simp)] at he
        simp -implicitDefEqProofs (maxSteps := 4000000) (disch := omega) only [go_sem, go_sem_proc, dr, Nat.min_def, ↓Nat.reduceBEq, ↓Nat.reduceEqDiff, ↓Nat.reduceLT, ↓Nat.reduceLeDiff, ↓Int.reduceEq, ↓Int.reduceLT, ↓Int.reduceLE, ↓reduceIte, hx, hg, AggN.pv, hP]
        exact ⟨i + 1, rfl, ⟨hlt, he⟩, by omega⟩
    · have hd : L.drop i = [] := List.drop_eq_nil_of_le (by omega)
      rw [hd, idxB] at he
      clear hφ hd
      simp -implicitDefEqProofs (maxSteps := 4000000) (disch := omega) only [go_sem, go_sem_proc, dr, Nat.min_def, ↓Nat.reduceBEq, ↓Nat.reduceEqDiff, ↓Nat.reduceLT, ↓Nat.reduceLeDiff, ↓Int.reduceEq, ↓Int.reduceLT, ↓Int.reduceLE, ↓reduceIte, he]
theorem Contains_agg {n : Bool} {L : List AggN} {C : List PV} {φ : AggN → Bool} (hl : L.length ≤ 9223372036854775807) (hφ : ∀ x ∈ L, dw E 24 [.agg [.int .i64 x.kind, .int .i64 x.col], .pc C] [] = some (.bool (φ x), [])) :
    dw E 26 [sf n 2 (L.map AggN.pv), .fn 24 [.pc C]] [] = some (.bool (L.any φ), []) := by
  have hI := Index_agg (n := n) hl hφ
  clear hφ
  refine dw_in (fn := Try.f26) rfl body26 (by simp) ?_
  rcases idxB_any φ L 0 with ⟨h1, h2⟩ | ⟨h1, h2⟩
  · rw [h1]
    generalize idxB φ L 0 = v at hI h2
    simp -implicitDefEqProofs (maxSteps := 4000000) (disch := omega) only [go_sem, go_sem_proc, dr, Nat.min_def, ↓Nat.reduceBEq, ↓Nat.reduceEqDiff, ↓Nat.reduceLT, ↓Nat.reduceLeDiff, ↓Int.reduceEq, ↓Int.reduceLT, ↓Int.reduceLE, ↓reduceIte, hI]
  · rw [h1]
    rw [h2] at hI
    simp -implicitDefEqProofs (maxSteps := 4000000) (disch := omega) only [go_sem, go_sem_proc, dr, Nat.min_def, ↓Nat.reduceBEq, ↓Nat.reduceEqDiff, ↓Nat.reduceLT, ↓Nat.reduceLeDiff, ↓Int.reduceEq, ↓Int.reduceLT, ↓Int.reduceLE, ↓reduceIte, hI]
theorem Index_int {n : Bool} {L : List Int} {C : List PV} {φ : Int → Bool} (hl : L.length ≤ 9223372036854775807) (hφ : ∀ x ∈ L, dw E 21 [.int .i64 x, .pc C] [] = some (.bool (φ x), [])) :
    dw E 42 [sf n 1 (L.map intPV), .fn 21 [.pc C]] [] = some (.int .i64 (idxB φ L 0), []) := by
  refine dw_in (fn := Try.f42) rfl body42 (by simp) ?_
  simp -implicitDefEqProofs (maxSteps := 4000000) (disch := omega) only [go_sem, go_sem_proc, dr, Nat.min_def, ↓Nat.reduceBEq, ↓Nat.reduceEqDiff, ↓Nat.reduceLT, ↓Nat.reduceLeDiff, ↓Int.reduceEq, ↓Int.reduceLT, ↓Int.reduceLE, ↓reduceIte]
  refine runs_any (fun i : Nat => (⟨[(0, sf n 1 (L.map intPV)), (1, .fn 21 [.pc C]), (7, .int .i64 L.length), (8, .int .i64 i)], [], 1⟩ : St)) (fun i => L.length - i) 0 (fun i => i ≤ L.length ∧ idxB φ L 0 = idxB φ (L.drop i) i) ⟨Nat.zero_le _, rfl⟩ ?_ ?_
  · simp -implicitDefEqProofs (maxSteps := 4000000) (disch := omega) only [go_sem, go_sem_proc, dr, Nat.min_def, ↓Nat.reduceBEq, ↓Nat.reduceEqDiff, ↓Nat.reduceLT, ↓Nat.reduceLeDiff, ↓Int.reduceEq, ↓Int.reduceLT, ↓Int.reduceLE, ↓reduceIte]
  · rintro i ⟨hi, he⟩
    by_cases hlt : i < L.length
    · obtain ⟨x, hx, hm, _⟩ := take_get hlt
      have hd : L.drop i = x :: L.drop (i + 1) := by rw [List.drop_eq_getElem_cons hlt, (List.getElem?_eq_some_iff.1 hx).2]
      rw [hd, idxB] at he
      have hP := hφ x hm
      have hg : sf n 1 (L.map intPV) = .sl 1 (L.map intPV) := sf_get (i := i) (by rw [List.length_map]; exact hlt)
      clear hφ hd hm
      cases hk : φ x with
      | true =>
        rw [hk] at he hP
        rw [if_pos rfl] at he
        simp -implicitDefEqProofs (maxSteps := 4000000) (disch := omega) only [go_sem, go_sem_proc, dr, Nat.min_def, ↓Nat.reduceBEq, ↓Nat.reduceEqDiff, ↓Nat.reduceLT, ↓Nat.reduceLeDiff, ↓Int.reduceEq, ↓Int.reduceLT, ↓Int.reduceLE, ↓reduceIte, hx, hg, intPV, hP, he]
      | false =>
        rw [hk] at he hP
        rw [if_neg (by simp)] at he
        simp -implicitDefEqProofs (maxSteps := 4000000) (disch := omega) only [go_sem, go_sem_proc, dr, Nat.min_def, ↓Nat.reduceBEq, ↓Nat.reduceEqDiff, ↓Nat.reduceLT, ↓Nat.reduceLeDiff, ↓Int.reduceEq, ↓Int.reduceLT, ↓Int.reduceLE, ↓reduceIte, hx, hg, intPV, hP]
        exact ⟨i + 1, rfl, ⟨hlt, he⟩, by omega⟩
    · have hd : L.drop i = [] := List.drop_eq_nil_of_le (by omega)
      rw [hd, idxB] at he
      clear hφ hd
      simp -implicitDefEqProofs (maxSteps := 4000000) (disch := omega) only [go_sem, go_sem_proc, dr, Nat.min_def, ↓Nat.reduceBEq, ↓Nat.reduceEqDiff, ↓Nat.reduceLT, ↓Nat.reduceLeDiff, ↓Int.reduceEq, ↓Int.reduceLT, ↓Int.reduceLE, ↓reduceIte, he]
theorem Contains_int {n : Bool} {L : List Int} {C : List PV} {φ : Int → Bool} (hl : L.length ≤ 9223372036854775807) (hφ : ∀ x ∈ L, dw E 21 [.int .i64 x, .pc C] [] = some (.bool (φ x), [])) :
    dw E 23 [sf n 1 (L.map intPV), .fn 21 [.pc C]] [] = some (.bool (L.any φ), []) := by
  have hI := Index_int (n := n) hl hφ
  clear hφ
  refine dw_in (fn := Try.f23) rfl body23 (by simp) ?_
  rcases idxB_any φ L 0 with ⟨h1, h2⟩ | ⟨h1, h2⟩
  · rw [h1]
    generalize idxB φ L 0 = v at hI h2
    simp -implicitDefEqProofs (maxSteps := 4000000) (disch := omega) only [go_sem, go_sem_proc, dr, Nat.min_def, ↓Nat.reduceBEq, ↓Nat.reduceEqDiff, ↓Nat.reduceLT, ↓Nat.reduceLeDiff, ↓Int.reduceEq, ↓Int.reduceLT, ↓Int.reduceLE, ↓reduceIte, hI]
  · rw [h1]
    rw [h2] at hI
    simp -implicitDefEqProofs (maxSteps := 4000000) (disch := omega) only [go_sem, go_sem_proc, dr, Nat.min_def, ↓Nat.reduceBEq, ↓Nat.reduceEqDiff, ↓Nat.reduceLT, ↓Nat.reduceLeDiff, ↓Int.reduceEq, ↓Int.reduceLT, ↓Int.reduceLE, ↓reduceIte, hI]
theorem Index_op {n : Bool} {L : List OpN} {C : List PV} {φ : OpN → Bool} (hl : L.length ≤ 9223372036854775807) (hφ : ∀ x ∈ L, dw E 34 [.agg [.int .i64 x.kind, sf x.rn 4 (x.row.map Val.pv), .int .i64 x.pred.kind, .int .i64 x.pred.col, .int .i64 x.pred.op, .bool x.pred.val.null, .int .i64 x.pred.val.kind, .int .i64 x.pred.val.int, bl x.pred.val.bytes, pl x.pred.nil x.pred.list, sf x.sn 6 (x.sets.map SetN.pv), sf x.cn 1 (x.cols.map intPV), .int .i64 x.group, sf x.an 2 (x.aggs.map AggN.pv)], .pc C] [] = some (.bool (φ x), [])) :
    dw E 48 [sf n 14 (L.map OpN.pv), .fn 34 [.pc C]] [] = some (.int .i64 (idxB φ L 0), []) := by
  refine dw_in (fn := Try.f48) rfl body48 (by simp) ?_
  simp -implicitDefEqProofs (maxSteps := 4000000) (disch := omega) only [go_sem, go_sem_proc, dr, Nat.min_def, ↓Nat.reduceBEq, ↓Nat.reduceEqDiff, ↓Nat.reduceLT, ↓Nat.reduceLeDiff, ↓Int.reduceEq, ↓Int.reduceLT, ↓Int.reduceLE, ↓reduceIte]
  refine runs_any (fun i : Nat => (⟨[(0, sf n 14 (L.map OpN.pv)), (1, .fn 34 [.pc C]), (7, .int .i64 L.length), (8, .int .i64 i)], [], 1⟩ : St)) (fun i => L.length - i) 0 (fun i => i ≤ L.length ∧ idxB φ L 0 = idxB φ (L.drop i) i) ⟨Nat.zero_le _, rfl⟩ ?_ ?_
  · simp -implicitDefEqProofs (maxSteps := 4000000) (disch := omega) only [go_sem, go_sem_proc, dr, Nat.min_def, ↓Nat.reduceBEq, ↓Nat.reduceEqDiff, ↓Nat.reduceLT, ↓Nat.reduceLeDiff, ↓Int.reduceEq, ↓Int.reduceLT, ↓Int.reduceLE, ↓reduceIte]
  · rintro i ⟨hi, he⟩
    by_cases hlt : i < L.length
    · obtain ⟨x, hx, hm, _⟩ := take_get hlt
      have hd : L.drop i = x :: L.drop (i + 1) := by rw [List.drop_eq_getElem_cons hlt, (List.getElem?_eq_some_iff.1 hx).2]
      rw [hd, idxB] at he
      have hP := hφ x hm
      have hg : sf n 14 (L.map OpN.pv) = .sl 14 (L.map OpN.pv) := sf_get (i := i) (by rw [List.length_map]; exact hlt)
      clear hφ hd hm
      cases hk : φ x with
      | true =>
        rw [hk] at he hP
        rw [if_pos rfl] at he
        simp -implicitDefEqProofs (maxSteps := 4000000) (disch := omega) only [go_sem, go_sem_proc, dr, Nat.min_def, ↓Nat.reduceBEq, ↓Nat.reduceEqDiff, ↓Nat.reduceLT, ↓Nat.reduceLeDiff, ↓Int.reduceEq, ↓Int.reduceLT, ↓Int.reduceLE, ↓reduceIte, hx, hg, OpN.pv, hP, he]
      | false =>
        rw [hk] at he hP
        rw [if_neg (by simp)] at he
        simp -implicitDefEqProofs (maxSteps := 4000000) (disch := omega) only [go_sem, go_sem_proc, dr, Nat.min_def, ↓Nat.reduceBEq, ↓Nat.reduceEqDiff, ↓Nat.reduceLT, ↓Nat.reduceLeDiff, ↓Int.reduceEq, ↓Int.reduceLT, ↓Int.reduceLE, ↓reduceIte, hx, hg, OpN.pv, hP]
        exact ⟨i + 1, rfl, ⟨hlt, he⟩, by omega⟩
    · have hd : L.drop i = [] := List.drop_eq_nil_of_le (by omega)
      rw [hd, idxB] at he
      clear hφ hd
      simp -implicitDefEqProofs (maxSteps := 4000000) (disch := omega) only [go_sem, go_sem_proc, dr, Nat.min_def, ↓Nat.reduceBEq, ↓Nat.reduceEqDiff, ↓Nat.reduceLT, ↓Nat.reduceLeDiff, ↓Int.reduceEq, ↓Int.reduceLT, ↓Int.reduceLE, ↓reduceIte, he]
theorem Contains_op {n : Bool} {L : List OpN} {C : List PV} {φ : OpN → Bool} (hl : L.length ≤ 9223372036854775807) (hφ : ∀ x ∈ L, dw E 34 [.agg [.int .i64 x.kind, sf x.rn 4 (x.row.map Val.pv), .int .i64 x.pred.kind, .int .i64 x.pred.col, .int .i64 x.pred.op, .bool x.pred.val.null, .int .i64 x.pred.val.kind, .int .i64 x.pred.val.int, bl x.pred.val.bytes, pl x.pred.nil x.pred.list, sf x.sn 6 (x.sets.map SetN.pv), sf x.cn 1 (x.cols.map intPV), .int .i64 x.group, sf x.an 2 (x.aggs.map AggN.pv)], .pc C] [] = some (.bool (φ x), [])) :
    dw E 33 [sf n 14 (L.map OpN.pv), .fn 34 [.pc C]] [] = some (.bool (L.any φ), []) := by
  have hI := Index_op (n := n) hl hφ
  clear hφ
  refine dw_in (fn := Try.f33) rfl body33 (by simp) ?_
  rcases idxB_any φ L 0 with ⟨h1, h2⟩ | ⟨h1, h2⟩
  · rw [h1]
    generalize idxB φ L 0 = v at hI h2
    simp -implicitDefEqProofs (maxSteps := 4000000) (disch := omega) only [go_sem, go_sem_proc, dr, Nat.min_def, ↓Nat.reduceBEq, ↓Nat.reduceEqDiff, ↓Nat.reduceLT, ↓Nat.reduceLeDiff, ↓Int.reduceEq, ↓Int.reduceLT, ↓Int.reduceLE, ↓reduceIte, hI]
  · rw [h1]
    rw [h2] at hI
    simp -implicitDefEqProofs (maxSteps := 4000000) (disch := omega) only [go_sem, go_sem_proc, dr, Nat.min_def, ↓Nat.reduceBEq, ↓Nat.reduceEqDiff, ↓Nat.reduceLT, ↓Nat.reduceLeDiff, ↓Int.reduceEq, ↓Int.reduceLT, ↓Int.reduceLE, ↓reduceIte, hI]
end Go.Proofs.Ytgbeijemcojnpaa.D
