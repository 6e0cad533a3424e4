/- Groups are made. -/
import Derived.Test.YtfgbklmmildakaaGrop2
namespace Go.Proofs.Ytfgbklmmildakaa.D
open Go Go.Den
set_option linter.unusedSimpArgs false
set_option linter.unusedVariables false
set_option maxRecDepth 20000
set_option maxHeartbeats 8000000
structure Ver where
  id : Int
  row : Option (List Val)
  a : Int
  b : Int
  c : Int
  d : Int
def Ver.span (v : Ver) : List PV := [.int .i64 v.a, .int .i64 v.b, .int .i64 v.c, .int .i64 v.d]
def Ver.pv (v : Ver) : List PV := [.int .i64 v.id, rowO v.row, .int .i64 v.a, .int .i64 v.b, .int .i64 v.c, .int .i64 v.d]
def gSt (C M : List (List PV)) (V : List Ver) : Nat → St
  | 0 => ⟨[(1, .sl 6 M), (2, .pb 1048578 0), (6, .pb 1048582 0), (7, .h 2097600), (14, .sl 6 M), (15, .int .i64 V.length), (16, .int .i64 0)], [(1048578, some ⟨true, .box [.sl 3 C]⟩), (1048582, some ⟨true, .box [.nilp, .nils, .nils]⟩), (2097600, some ⟨true, .row 27 1 []⟩)], 1⟩
  | j + 1 => ⟨[(1, .sl 6 M), (2, .pb 1048578 0), (6, .pb 1048582 0), (7, .h 2097600), (14, .sl 6 M), (15, .int .i64 V.length), (16, .int .i64 ((j : Int) + 1))], [(1048578, some ⟨true, .box [.sl 3 C]⟩), (1048582, some ⟨true, .box [.nilp, .h 2097537, .h 2097538]⟩), (2097537, some ⟨true, .row 3 1 (ints .i64 ((V.take (j + 1)).map (·.id)))⟩), (2097538, some ⟨true, .row 35 4 ((V.take (j + 1)).map Ver.span)⟩), (2097600, some ⟨true, .row 27 1 (rowsO ((V.take (j + 1)).map (·.row)))⟩)], 1⟩
def upTo (V : List Ver) (i : Nat) : Prop := ∀ k a b, k + 1 < i → V[k]? = some a → V[k + 1]? = some b → a.id < b.id
theorem s0h (d : Nat) : seal0 (.h d) = .rdc d fun | .row _ sz xs => .ret (.sl sz xs, [(d, .fz)]) | _ => .fail := rfl
theorem s0i (k : IntKind) (n : Int) : seal0 (.int k n) = .ret (.int k n, []) := rfl
theorem s0s (sz : Nat) (xs : List (List PV)) : seal0 (.sl sz xs) = .ret (.sl sz xs, []) := rfl
theorem s0n : seal0L [] = .ret ([], []) := rfl
theorem s0c (v : PV) (r : List PV) : seal0L (v :: r) = (seal0 v).bind fun x => (seal0L r).bind fun y => .ret (x.1 :: y.1, x.2 ++ y.2) := rfl
theorem ints_snoc' (k : IntKind) (l : List Int) (x : Int) : ints k (l ++ [x]) = ints k l ++ [[.int k x]] := by simp [ints]
theorem rowsO_snoc (L : List (Option (List Val))) (o : Option (List Val)) : rowsO (L ++ [o]) = rowsO L ++ [[rowO o]] := by simp [rowsO]
theorem GMake_no {n : Int} {V : List Ver} (h0 : 1 ≤ V.length) (hV : V.length ≤ 1000) (hr : upTo V V.length) (h : 64 < V.length ∨ allFit (schemaN n) (V.map (·.row)) = false) : dw E 7 [.agg [.sl 3 ((schemaN n).map Col.pv)], .sl 6 (V.map Ver.pv)] [] = some (.tup [.nilp, .bool false], []) := by
  have hS := SMake_no (n := n) (L := V.map (·.row)) (by rw [List.length_map]; omega) (by rw [List.length_map]; rcases h with h | h; exact .inr (.inl h); exact .inr (.inr h))
  have hg : ∀ {i : Nat} {v : Ver}, V[i]? = some v → (V.map Ver.pv)[i]? = some v.pv := fun h => by simp [h]
  have hM : (V.map Ver.pv).length = V.length := List.length_map ..
  clear h
  generalize V.map Ver.pv = M at *
  generalize (schemaN n).map Col.pv = C at *
  refine dw_in (fn := Try.f7) rfl body7 (by simp) ?_
  simp -implicitDefEqProofs (maxSteps := 4000000) (disch := omega) only [go_sem, go_sem_proc, dr, Nat.min_def, ↓reduceIte, hM]
  refine runs_for (gSt C M V) V.length ?_ ?_ ?_
  · clear hr
    simp -implicitDefEqProofs (maxSteps := 4000000) (disch := omega) only [go_sem, go_sem_proc, dr, Nat.min_def, ↓reduceIte, gSt, ints, List.map_nil]
  · intro i hi
    clear hS
    obtain ⟨v, hv, hm, ht⟩ := take_get hi
    have hgv := hg hv
    cases i with
    | zero =>
      obtain ⟨id, row, a, b, c, d⟩ := v
      simp only [Ver.pv] at hgv
      clear hr hg
      cases row <;> simp only [rowO] at hgv <;> simp -implicitDefEqProofs (maxSteps := 4000000) (disch := omega) only [go_sem, go_sem_proc, dr, Nat.min_def, ↓reduceIte, gSt, hgv, hM, ht]
      all_goals exact ⟨by ((repeat' split) <;> (change _ = true; kernel_rfl)), by ((repeat' split) <;> (change _ = true; kernel_rfl)), rfl⟩
    | succ j =>
      obtain ⟨w, hw, _, _⟩ := take_get (l := V) (i := j) (by omega)
      have hlt := hr j w v (by omega) hw hv
      have hgw := hg hw
      obtain ⟨id, row, a, b, c, d⟩ := v
      obtain ⟨id2, row2, a2, b2, c2, d2⟩ := w
      simp only [Ver.pv] at hgv hgw
      dsimp only at hlt
      have e1 : (V.take (j + 1 + 1)).map (·.id) = (V.take (j + 1)).map (·.id) ++ [id] := by rw [ht, List.map_append]; rfl
      have e2 : (V.take (j + 1 + 1)).map Ver.span = (V.take (j + 1)).map Ver.span ++ [[.int .i64 a, .int .i64 b, .int .i64 c, .int .i64 d]] := by rw [ht, List.map_append]; rfl
      have e3 : (V.take (j + 1 + 1)).map (·.row) = (V.take (j + 1)).map (·.row) ++ [row] := by rw [ht, List.map_append]; rfl
      have l1 : ((V.take (j + 1)).map (·.id)).length = j + 1 := by rw [List.length_map, List.length_take]; omega
      have l2 : ((V.take (j + 1)).map Ver.span).length = j + 1 := by rw [List.length_map, List.length_take]; omega
      have l3 : (rowsO ((V.take (j + 1)).map (·.row))).length = j + 1 := by unfold rowsO; rw [List.length_map, List.length_map, List.length_take]; omega
      simp only [gSt, e1, e2, e3, rowsO_snoc]
      generalize (V.take (j + 1)).map (·.id) = I1 at *
      generalize (V.take (j + 1)).map Ver.span = S1 at *
      generalize rowsO ((V.take (j + 1)).map (·.row)) = R1' at *
      clear hr hg hv hw ht e1 e2 e3 hm
      have hj : ((j : Int) + 1).toNat = j + 1 := by omega
      cases row <;> simp only [rowO] at hgv ⊢ <;> simp -implicitDefEqProofs (maxSteps := 4000000) (disch := omega) only [go_sem, go_sem_proc, dr, Nat.min_def, ↓reduceIte, hgv, hgw, hM, hj, l1, l2, l3]
      all_goals exact ⟨by ((repeat' split) <;> (change _ = true; kernel_rfl)), by ((repeat' split) <;> (change _ = true; kernel_rfl))⟩
  · obtain ⟨j, hj⟩ : ∃ j, V.length = j + 1 := ⟨V.length - 1, by omega⟩
    have e : gSt C M V V.length = gSt C M V (j + 1) := by rw [hj]
    have htk : V.take (j + 1) = V := List.take_of_length_le (by omega)
    have hji : (V.length : Int) = (j : Int) + 1 := by omega
    rw [e]
    clear hr hg e
    simp only [gSt, htk, hji]
    simp -implicitDefEqProofs (maxSteps := 4000000) (disch := omega) only [go_sem, go_sem_proc, dr, Nat.min_def, ↓reduceIte, hM, hS]
theorem GMake_ok {n : Int} {V : List Ver} {rows : List (List Val)} (h0 : 1 ≤ V.length) (h64 : V.length ≤ 64) (hr : upTo V V.length) (hrow : V.map (·.row) = rows.map some) (hRR : RR rows) (hf : ∀ r ∈ rows, fits (schemaN n) r = true) : dw E 7 [.agg [.sl 3 ((schemaN n).map Col.pv)], .sl 6 (V.map Ver.pv)] [] =
    some (.tup [.nb [.pc [.int .i64 rows.length, .sl 9 ((zonesN (schemaN n) rows).map Zn.pv), .sl 3 ((schemaN n).map Col.pv), .sl 1 (rowsPV (stR rows))], .nr 3 1 (ints .i64 (V.map (·.id))), .nr 35 4 (V.map Ver.span)], .bool true], []) := by
  have hlr : rows.length = V.length := by have := congrArg List.length hrow; simpa using this.symm
  obtain ⟨X, hX, hS⟩ := SMake_ok (n := n) hRR (by omega) (by omega) hf
  rw [← rowsO_some, ← hrow] at hS
  have hg : ∀ {i : Nat} {v : Ver}, V[i]? = some v → (V.map Ver.pv)[i]? = some v.pv := fun h => by simp [h]
  have hM : (V.map Ver.pv).length = V.length := List.length_map ..
  clear hrow hRR hf
  generalize (zonesN (schemaN n) rows).map Zn.pv = Z at *
  generalize rowsPV (stR rows) = R2 at *
  generalize V.map Ver.pv = M at *
  generalize (schemaN n).map Col.pv = C at *
  generalize (rows.length : Int) = rl at *
  clear hlr
  refine dw_in (fn := Try.f7) rfl body7 (by simp) ?_
  simp -implicitDefEqProofs (maxSteps := 4000000) (disch := omega) only [go_sem, go_sem_proc, dr, Nat.min_def, ↓reduceIte, hM]
  refine runs_for (gSt C M V) V.length ?_ ?_ ?_
  · clear hr
    simp -implicitDefEqProofs (maxSteps := 4000000) (disch := omega) only [go_sem, go_sem_proc, dr, Nat.min_def, ↓reduceIte, gSt, ints, List.map_nil]
  · intro i hi
    clear hS hX
    obtain ⟨v, hv, hm, ht⟩ := take_get hi
    have hgv := hg hv
    cases i with
    | zero =>
      obtain ⟨id, row, a, b, c, d⟩ := v
      simp only [Ver.pv] at hgv
      clear hr hg
      cases row <;> simp only [rowO] at hgv <;> simp -implicitDefEqProofs (maxSteps := 4000000) (disch := omega) only [go_sem, go_sem_proc, dr, Nat.min_def, ↓reduceIte, gSt, hgv, hM, ht]
      all_goals exact ⟨by ((repeat' split) <;> (change _ = true; kernel_rfl)), by ((repeat' split) <;> (change _ = true; kernel_rfl)), rfl⟩
    | succ j =>
      obtain ⟨w, hw, _, _⟩ := take_get (l := V) (i := j) (by omega)
      have hlt := hr j w v (by omega) hw hv
      have hgw := hg hw
      obtain ⟨id, row, a, b, c, d⟩ := v
      obtain ⟨id2, row2, a2, b2, c2, d2⟩ := w
      simp only [Ver.pv] at hgv hgw
      dsimp only at hlt
      have e1 : (V.take (j + 1 + 1)).map (·.id) = (V.take (j + 1)).map (·.id) ++ [id] := by rw [ht, List.map_append]; rfl
      have e2 : (V.take (j + 1 + 1)).map Ver.span = (V.take (j + 1)).map Ver.span ++ [[.int .i64 a, .int .i64 b, .int .i64 c, .int .i64 d]] := by rw [ht, List.map_append]; rfl
      have e3 : (V.take (j + 1 + 1)).map (·.row) = (V.take (j + 1)).map (·.row) ++ [row] := by rw [ht, List.map_append]; rfl
      have l1 : ((V.take (j + 1)).map (·.id)).length = j + 1 := by rw [List.length_map, List.length_take]; omega
      have l2 : ((V.take (j + 1)).map Ver.span).length = j + 1 := by rw [List.length_map, List.length_take]; omega
      have l3 : (rowsO ((V.take (j + 1)).map (·.row))).length = j + 1 := by unfold rowsO; rw [List.length_map, List.length_map, List.length_take]; omega
      simp only [gSt, e1, e2, e3, rowsO_snoc]
      generalize (V.take (j + 1)).map (·.id) = I1 at *
      generalize (V.take (j + 1)).map Ver.span = S1 at *
      generalize rowsO ((V.take (j + 1)).map (·.row)) = R1' at *
      clear hr hg hv hw ht e1 e2 e3 hm
      have hj : ((j : Int) + 1).toNat = j + 1 := by omega
      cases row <;> simp only [rowO] at hgv ⊢ <;> simp -implicitDefEqProofs (maxSteps := 4000000) (disch := omega) only [go_sem, go_sem_proc, dr, Nat.min_def, ↓reduceIte, hgv, hgw, hM, hj, l1, l2, l3]
      all_goals exact ⟨by ((repeat' split) <;> (change _ = true; kernel_rfl)), by ((repeat' split) <;> (change _ = true; kernel_rfl))⟩
  · obtain ⟨j, hj⟩ : ∃ j, V.length = j + 1 := ⟨V.length - 1, by omega⟩
    have e : gSt C M V V.length = gSt C M V (j + 1) := by rw [hj]
    have htk : V.take (j + 1) = V := List.take_of_length_le (by omega)
    have hji : (V.length : Int) = (j : Int) + 1 := by omega
    rw [e]
    clear hr hg e
    simp only [gSt, htk, hji]
    rcases hX with rfl | rfl
    · simp -implicitDefEqProofs (maxSteps := 4000000) (disch := omega) only [go_sem, go_sem_proc, dr, Nat.min_def, ↓reduceIte, hM, hS, s0h, s0i, s0s, s0n, s0c]
    · simp -implicitDefEqProofs (maxSteps := 4000000) (disch := omega) only [go_sem, go_sem_proc, dr, Nat.min_def, ↓reduceIte, hM, hS, s0h, s0i, s0s, s0n, s0c]
theorem GMake_bad {n : Int} {V : List Ver} {j : Nat} {w1 w2 : Ver} (hV : V.length ≤ 1000) (h1 : V[j]? = some w1) (h2 : V[j + 1]? = some w2) (hno : w2.id ≤ w1.id) (hr : upTo V (j + 1)) : dw E 7 [.agg [.sl 3 ((schemaN n).map Col.pv)], .sl 6 (V.map Ver.pv)] [] = some (.tup [.nilp, .bool false], []) := by
  have hg : ∀ {i : Nat} {v : Ver}, V[i]? = some v → (V.map Ver.pv)[i]? = some v.pv := fun h => by simp [h]
  have hM : (V.map Ver.pv).length = V.length := List.length_map ..
  have hjl : j + 1 < V.length := (List.getElem?_eq_some_iff.1 h2).1
  generalize V.map Ver.pv = M at *
  generalize (schemaN n).map Col.pv = C at *
  refine dw_in (fn := Try.f7) rfl body7 (by simp) ?_
  simp -implicitDefEqProofs (maxSteps := 4000000) (disch := omega) only [go_sem, go_sem_proc, dr, Nat.min_def, ↓reduceIte, hM]
  refine runs_any (gSt C M V) (fun i => V.length - i) 0 (fun i => i ≤ j + 1) (Nat.zero_le _) ?_ ?_
  · clear hr
    simp -implicitDefEqProofs (maxSteps := 4000000) (disch := omega) only [go_sem, go_sem_proc, dr, Nat.min_def, ↓reduceIte, gSt, ints, List.map_nil]
  · intro i hi
    obtain ⟨v, hv, hm, ht⟩ := take_get (l := V) (i := i) (by omega)
    have hgv := hg hv
    cases i with
    | zero =>
      obtain ⟨id, row, a, b, c, d⟩ := v
      simp only [Ver.pv] at hgv
      clear hr hg
      cases row <;> simp only [rowO] at hgv <;> simp -implicitDefEqProofs (maxSteps := 4000000) (disch := omega) only [go_sem, go_sem_proc, dr, Nat.min_def, ↓reduceIte, gSt, hgv, hM, ht]
      all_goals exact ⟨by ((repeat' split) <;> (change _ = true; kernel_rfl)), by ((repeat' split) <;> (change _ = true; kernel_rfl)), 1, by rw [show (0 + 1 : Nat) = 1 from rfl] at ht; simp only [gSt, ht]; rfl, by omega, by omega⟩
    | succ k =>
      obtain ⟨w, hw, _, _⟩ := take_get (l := V) (i := k) (by omega)
      have hgw := hg hw
      by_cases hk : k = j
      · subst hk
        rw [h1] at hw
        injection hw with hw
        subst hw
        rw [h2] at hv
        injection hv with hv
        subst hv
        obtain ⟨id, row, a, b, c, d⟩ := w2
        obtain ⟨id2, row2, a2, b2, c2, d2⟩ := w1
        simp only [Ver.pv] at hgv hgw
        dsimp only at hno
        simp only [gSt]
        generalize (V.take (k + 1)).map (·.id) = I1 at *
        generalize (V.take (k + 1)).map Ver.span = S1 at *
        generalize rowsO ((V.take (k + 1)).map (·.row)) = R1' at *
        clear hr hg h1 h2 ht hm
        have hj : ((k : Int) + 1).toNat = k + 1 := by omega
        simp -implicitDefEqProofs (maxSteps := 4000000) (disch := omega) only [go_sem, go_sem_proc, dr, Nat.min_def, ↓reduceIte, hgv, hgw, hM, hj]
        try ((repeat' split) <;> (change _ = true; kernel_rfl))
      · have hlt := hr k w v (by omega) hw hv
        obtain ⟨id, row, a, b, c, d⟩ := v
        obtain ⟨id2, row2, a2, b2, c2, d2⟩ := w
        simp only [Ver.pv] at hgv hgw
        dsimp only at hlt
        have e1 : (V.take (k + 1 + 1)).map (·.id) = (V.take (k + 1)).map (·.id) ++ [id] := by rw [ht, List.map_append]; rfl
        have e2 : (V.take (k + 1 + 1)).map Ver.span = (V.take (k + 1)).map Ver.span ++ [[.int .i64 a, .int .i64 b, .int .i64 c, .int .i64 d]] := by rw [ht, List.map_append]; rfl
        have e3 : rowsO ((V.take (k + 1 + 1)).map (·.row)) = rowsO ((V.take (k + 1)).map (·.row)) ++ [[rowO row]] := by rw [ht, List.map_append]; exact rowsO_snoc _ _
        have l1 : ((V.take (k + 1)).map (·.id)).length = k + 1 := by rw [List.length_map, List.length_take]; omega
        have l2 : ((V.take (k + 1)).map Ver.span).length = k + 1 := by rw [List.length_map, List.length_take]; omega
        have l3 : (rowsO ((V.take (k + 1)).map (·.row))).length = k + 1 := by unfold rowsO; rw [List.length_map, List.length_map, List.length_take]; omega
        have hnext : gSt C M V (k + 1 + 1) = ⟨[(1, .sl 6 M), (2, .pb 1048578 0), (6, .pb 1048582 0), (7, .h 2097600), (14, .sl 6 M), (15, .int .i64 V.length), (16, .int .i64 ((k : Int) + 1 + 1))], [(1048578, some ⟨true, .box [.sl 3 C]⟩), (1048582, some ⟨true, .box [.nilp, .h 2097537, .h 2097538]⟩), (2097537, some ⟨true, .row 3 1 (ints .i64 ((V.take (k + 1)).map (·.id)) ++ [[.int .i64 id]])⟩), (2097538, some ⟨true, .row 35 4 ((V.take (k + 1)).map Ver.span ++ [[.int .i64 a, .int .i64 b, .int .i64 c, .int .i64 d]])⟩), (2097600, some ⟨true, .row 27 1 (rowsO ((V.take (k + 1)).map (·.row)) ++ [[rowO row]])⟩)], 1⟩ := by
          simp only [gSt, e1, e2, e3, ints_snoc']
          rfl
        simp only [gSt]
        have hstep : gSt C M V (k + 1 + 1) = gSt C M V (k + 2) := rfl
        have hk1 : k + 2 ≤ j + 1 := by omega
        have hk2 : V.length - (k + 2) < V.length - (k + 1) := by omega
        rw [hstep] at hnext
        generalize hst : gSt C M V (k + 2) = ST at *
        generalize (V.take (k + 1)).map (·.id) = I1 at *
        generalize (V.take (k + 1)).map Ver.span = S1 at *
        generalize rowsO ((V.take (k + 1)).map (·.row)) = R1' at *
        clear hr hg hv hw ht e1 e2 e3 hm h1 h2 hstep
        have hj : ((k : Int) + 1).toNat = k + 1 := by omega
        cases row <;> simp only [rowO] at hgv hnext <;> simp -implicitDefEqProofs (maxSteps := 4000000) (disch := omega) only [go_sem, go_sem_proc, dr, Nat.min_def, ↓reduceIte, hgv, hgw, hM, hj, l1, l2, l3]
        all_goals first | exact ⟨by ((repeat' split) <;> (change _ = true; kernel_rfl)), by ((repeat' split) <;> (change _ = true; kernel_rfl)), k + 2, by rw [hst, hnext]; first | rfl | simp [ints_snoc'], hk1, hk2⟩ | exact ⟨k + 2, by rw [hst, hnext]; first | rfl | simp [ints_snoc'], hk1, hk2⟩
end Go.Proofs.Ytfgbklmmildakaa.D
