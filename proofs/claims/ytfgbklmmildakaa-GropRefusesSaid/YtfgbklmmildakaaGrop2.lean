/- Segments are made. -/
import Derived.Test.YtfgbklmmildakaaGrop1
namespace Go.Proofs.Ytfgbklmmildakaa.D
open Go Go.Den
set_option linter.unusedSimpArgs false
set_option linter.unusedVariables false
set_option maxRecDepth 20000
set_option maxHeartbeats 8000000
/-! ### schemas that are -/
theorem named_key : dw E 35 [.str [107, 101, 121]] [] = some (.bool true, []) := dw_of (k := 60) (by kernel_rfl)
theorem named_N (i : Nat) (h : i < 5) : dw E 35 [.str (nameN i)] [] = some (.bool true, []) := by
  have : i = 0 ∨ i = 1 ∨ i = 2 ∨ i = 3 ∨ i = 4 := by omega
  rcases this with rfl | rfl | rfl | rfl | rfl <;> exact dw_of (k := 60) (by kernel_rfl)
theorem same_spec {c d : Col} : dw E 34 [.agg d.pv, .pc c.pv] [] = some (.bool (d.name == c.name), []) := by
  obtain ⟨n1, k1, b1⟩ := c
  obtain ⟨n2, k2, b2⟩ := d
  simp only [Col.pv]
  refine dw_in (fn := Try.f34) rfl body34 (by simp) ?_
  simp -implicitDefEqProofs (maxSteps := 4000000) (disch := omega) only [go_sem, go_sem_proc, dr, Nat.min_def, ↓reduceIte]
theorem IFc {L : List Col} {c : Col} (h : ∀ d ∈ L, (d.name == c.name) = false) (hl : L.length ≤ 1000000) : dw E 43 [.sl 3 (L.map Col.pv), .fn 34 [.pc c.pv]] [] = some (.int .i64 (-1), []) := by
  have hg : ∀ {i : Nat} {d : Col}, L[i]? = some d → (L.map Col.pv)[i]? = some d.pv := fun h => by simp [h]
  have hM : (L.map Col.pv).length = L.length := List.length_map ..
  have hS := fun d => same_spec (c := c) (d := d)
  generalize L.map Col.pv = M at *
  generalize c.pv = C at *
  refine dw_in (fn := Try.f43) rfl body43 (by simp) ?_
  simp -implicitDefEqProofs (maxSteps := 4000000) (disch := omega) only [go_sem, go_sem_proc, dr, Nat.min_def, ↓reduceIte, hM]
  refine runs_for (fun i : Nat => (⟨[(0, .sl 3 M), (1, .fn 34 [.pc C]), (7, .int .i64 L.length), (8, .int .i64 i)], [], 1⟩ : St)) L.length ?_ ?_ ?_
  · simp -implicitDefEqProofs (maxSteps := 4000000) (disch := omega) only [go_sem, go_sem_proc, dr, Nat.min_def, ↓reduceIte]
  · intro i hi
    obtain ⟨d, hd, hm, ht⟩ := take_get hi
    have hS' := hS d
    rw [h d hm] at hS'
    have hgd := hg hd
    clear h ht hg hS hd hm
    simp only [Col.pv] at hgd hS'
    simp -implicitDefEqProofs (maxSteps := 4000000) (disch := omega) only [go_sem, go_sem_proc, dr, Nat.min_def, ↓reduceIte, hgd, hM, hS']
  · simp -implicitDefEqProofs (maxSteps := 4000000) (disch := omega) only [go_sem, go_sem_proc, dr, Nat.min_def, ↓reduceIte]
theorem CFc {L : List Col} {c : Col} (h : ∀ d ∈ L, (d.name == c.name) = false) (hl : L.length ≤ 1000000) : dw E 36 [.sl 3 (L.map Col.pv), .fn 34 [.pc c.pv]] [] = some (.bool false, []) := by
  have hI := IFc h hl
  generalize L.map Col.pv = M at *
  generalize c.pv = C at *
  refine dw_in (fn := Try.f36) rfl body36 (by simp) ?_
  simp -implicitDefEqProofs (maxSteps := 4000000) (disch := omega) only [go_sem, go_sem_proc, dr, Nat.min_def, ↓reduceIte, hI]
theorem nameN_ne {i j : Nat} (h : j < i) (hi : i < 5) : (nameN j == nameN i) = false := by
  have h1 : i = 1 ∨ i = 2 ∨ i = 3 ∨ i = 4 := by omega
  have h2 : j = 0 ∨ j = 1 ∨ j = 2 ∨ j = 3 := by omega
  rcases h1 with rfl | rfl | rfl | rfl <;> rcases h2 with rfl | rfl | rfl | rfl <;> first | omega | decide
theorem schemaN_names (n : Int) {i : Nat} {c : Col} (h : (schemaN n)[i]? = some c) : dw E 35 [.str c.name] [] = some (.bool true, []) ∧ (∀ d ∈ (schemaN n).take i, (d.name == c.name) = false) ∧ (c.kind = 1 ∨ c.kind = 2) := by
  have hm := manyN_lt n
  unfold schemaN colsN at h ⊢
  cases i with
  | zero =>
    simp at h
    subst h
    exact ⟨named_key, by simp, .inl rfl⟩
  | succ i =>
    rw [List.getElem?_cons_succ, List.getElem?_map] at h
    have hi : i < manyN n := by
      rcases Nat.lt_or_ge i (manyN n) with h' | h'
      · exact h'
      · rw [List.getElem?_eq_none (by simpa using h')] at h; cases h
    rw [List.getElem?_range hi, Option.map_some] at h
    injection h with h
    subst h
    refine ⟨named_N i (by omega), fun d hd => ?_, ?_⟩
    · rw [List.take_succ_cons] at hd
      rcases List.mem_cons.1 hd with rfl | hd
      · have : i = 0 ∨ i = 1 ∨ i = 2 ∨ i = 3 ∨ i = 4 := by omega
        show (([107, 101, 121] : List UInt8) == nameN i) = false
        rcases this with rfl | rfl | rfl | rfl | rfl <;> decide
      · rw [← List.map_take] at hd
        obtain ⟨j, hj, rfl⟩ := List.mem_map.1 hd
        rw [List.take_range] at hj
        have := List.mem_range.1 hj
        exact nameN_ne (by omega) (by omega)
    · show n.fdiv (2 ^ (8 + 2 * i)) % 2 + 1 = 1 ∨ n.fdiv (2 ^ (8 + 2 * i)) % 2 + 1 = 2
      omega
theorem Ok_schema (n : Int) : dw E 26 [.agg [.sl 3 ((schemaN n).map Col.pv)]] [] = some (.bool true, []) := by
  have hlen := schemaN_length n
  have hpos := schemaN_pos n
  have hN := fun {i : Nat} {c : Col} (h : (schemaN n)[i]? = some c) => schemaN_names n h
  have h0 : (schemaN n)[0]? = some keyCol := rfl
  generalize schemaN n = s at *
  have hg : ∀ {i : Nat} {d : Col}, s[i]? = some d → (s.map Col.pv)[i]? = some d.pv := fun h => by simp [h]
  have hM : (s.map Col.pv).length = s.length := List.length_map ..
  have ht : ∀ i, ((s.map Col.pv).take i) = (s.take i).map Col.pv := fun i => by rw [List.map_take]
  have hg0 := hg h0
  have hgk : (s.map Col.pv)[0]? = some [.str [107, 101, 121], .int .i64 1, .bool false] := hg0
  generalize hC : s.map Col.pv = C at *
  refine dw_in (fn := Try.f26) rfl body26 (by simp) ?_
  simp -implicitDefEqProofs (maxSteps := 4000000) (disch := omega) only [go_sem, go_sem_proc, dr, Nat.min_def, ↓reduceIte, hM]
  refine runs_for (fun i : Nat => (⟨[(1, .pb 1048577 0), (8, .sl 3 C), (9, .int .i64 s.length), (10, .int .i64 i)], [(1048577, some ⟨true, .box [.sl 3 C]⟩)], 1⟩ : St)) s.length ?_ ?_ ?_
  · simp -implicitDefEqProofs (maxSteps := 4000000) (disch := omega) only [go_sem, go_sem_proc, dr, Nat.min_def, ↓reduceIte]
  · intro i hi
    obtain ⟨c, hc, _, _⟩ := take_get hi
    obtain ⟨n1, n2, n3⟩ := hN hc
    have hgc := hg hc
    have hCF := CFc n2 (by rw [List.length_take]; omega)
    rw [← ht i] at hCF
    obtain ⟨nm, k, nl⟩ := c
    simp only [Col.pv] at hgc hCF n1 n3
    clear hN ht hg hc n2 hC
    rcases n3 with rfl | rfl
    · simp -implicitDefEqProofs (maxSteps := 4000000) (disch := omega) only [go_sem, go_sem_proc, dr, Nat.min_def, ↓reduceIte, hM, hgc, hCF, n1, List.drop_zero]
    · simp -implicitDefEqProofs (maxSteps := 4000000) (disch := omega) only [go_sem, go_sem_proc, dr, Nat.min_def, ↓reduceIte, hM, hgc, hCF, n1, List.drop_zero]
  · clear hN ht hg hC
    simp -implicitDefEqProofs (maxSteps := 4000000) (disch := omega) only [go_sem, go_sem_proc, dr, Nat.min_def, ↓reduceIte, hM, hgk]
/-! ### a segment is made, or not -/
def stR (rows : List (List Val)) : List (List Val) := rows.map (List.map stv)
theorem rowsO_some (rows : List (List Val)) : rowsO (rows.map some) = rowsPV rows := by
  unfold rowsO rowsPV
  rw [List.map_map]
  rfl
theorem SMake_ok {n : Int} {rows : List (List Val)} (hr : RR rows) (h1 : 1 ≤ rows.length) (h64 : rows.length ≤ 64) (hf : ∀ r ∈ rows, fits (schemaN n) r = true) : ∃ X, (X = .nr 54 3 ((schemaN n).map Col.pv) ∨ X = .sl 3 ((schemaN n).map Col.pv)) ∧ dw E 16 [.agg [.sl 3 ((schemaN n).map Col.pv)], .sl 1 (rowsPV rows)] [] =
    some (.tup [.nb [.int .i64 rows.length, .nr 92 9 ((zonesN (schemaN n) rows).map Zn.pv), X, .nr 27 1 (rowsPV (stR rows))], .bool true], []) := by
  have hOk := Ok_schema n
  have hs : 1 ≤ (schemaN n).length ∧ (schemaN n).length ≤ 1000000 := ⟨schemaN_pos n, by have := schemaN_length n; omega⟩
  have hCF := CFr_spec (L := rows.map some) hs (by rw [List.length_map]; omega)
  have hall : allFit (schemaN n) (rows.map some) = true := by
    unfold allFit
    rw [List.all_map]
    exact List.all_eq_true.2 fun r hr => hf r hr
  rw [hall, rowsO_some, Bool.not_true] at hCF
  have hOf := Of_spec (s := schemaN n) (rows := rows) (by have := schemaN_length n; omega) hr
  have hst := still_sp hr
  have hCl : ((schemaN n).map Col.pv).length ≤ 6 := by rw [List.length_map]; exact schemaN_length n
  have hRl : (rowsPV rows).length = rows.length := List.length_map ..
  unfold stR
  generalize (zonesN (schemaN n) rows).map Zn.pv = Z at *
  generalize rowsPV (rows.map (List.map stv)) = R2 at *
  generalize rowsPV rows = R at *
  generalize (schemaN n).map Col.pv = C at *
  have hcl : cloneF 54 3 32 [.sl 3 C] = some (.nr 54 3 C) := by
    show (if ((3 : Nat) == 3 && Nat.ble (C.length * (32 + 1)) 70368744177664) = true then some (PV.nr 54 3 C) else none) = _
    rw [if_pos (by simp; omega)]
  obtain ⟨f, hfz⟩ : ∃ f, (Z.any fun x => x.any sharesP) = f := ⟨_, rfl⟩
  clear hr hf hall hs
  cases f with
  | false =>
    refine ⟨_, .inl rfl, ?_⟩
    refine dw_in (fn := Try.f16) rfl body16 (by simp) ?_
    simp -implicitDefEqProofs (maxSteps := 4000000) (disch := omega) only [go_sem, go_sem_proc, dr, Nat.min_def, ↓reduceIte, hOk, hCF, hOf, hst, hRl, hcl, hfz, Bool.not_true]
    ((repeat' split) <;> (change _ = true; kernel_rfl))
  | true =>
    refine ⟨_, .inr rfl, ?_⟩
    refine dw_in (fn := Try.f16) rfl body16 (by simp) ?_
    simp -implicitDefEqProofs (maxSteps := 4000000) (disch := omega) only [go_sem, go_sem_proc, dr, Nat.min_def, ↓reduceIte, hOk, hCF, hOf, hst, hRl, hcl, hfz, Bool.not_true]
    ((repeat' split) <;> (change _ = true; kernel_rfl))
theorem SMake_no {n : Int} {L : List (Option (List Val))} (hl : L.length ≤ 1000000) (h : L.length < 1 ∨ 64 < L.length ∨ allFit (schemaN n) L = false) : dw E 16 [.agg [.sl 3 ((schemaN n).map Col.pv)], .sl 1 (rowsO L)] [] = some (.tup [.nilp, .bool false], []) := by
  have hOk := Ok_schema n
  have hs : 1 ≤ (schemaN n).length ∧ (schemaN n).length ≤ 1000000 := ⟨schemaN_pos n, by have := schemaN_length n; omega⟩
  have hCF := CFr_spec (L := L) hs hl
  have hRl : (rowsO L).length = L.length := List.length_map ..
  generalize rowsO L = R at *
  generalize (schemaN n).map Col.pv = C at *
  clear hs
  by_cases h1 : L.length < 1
  · refine dw_in (fn := Try.f16) rfl body16 (by simp) ?_
    simp -implicitDefEqProofs (maxSteps := 4000000) (disch := omega) only [go_sem, go_sem_proc, dr, Nat.min_def, ↓reduceIte, hOk, hRl, Bool.not_true]
  by_cases h2 : 64 < L.length
  · refine dw_in (fn := Try.f16) rfl body16 (by simp) ?_
    simp -implicitDefEqProofs (maxSteps := 4000000) (disch := omega) only [go_sem, go_sem_proc, dr, Nat.min_def, ↓reduceIte, hOk, hRl, Bool.not_true]
  have h3 : allFit (schemaN n) L = false := by rcases h with h | h | h; exact absurd h h1; exact absurd h h2; exact h
  rw [h3, Bool.not_false] at hCF
  refine dw_in (fn := Try.f16) rfl body16 (by simp) ?_
  simp -implicitDefEqProofs (maxSteps := 4000000) (disch := omega) only [go_sem, go_sem_proc, dr, Nat.min_def, ↓reduceIte, hOk, hRl, hCF, Bool.not_true]
end Go.Proofs.Ytfgbklmmildakaa.D
