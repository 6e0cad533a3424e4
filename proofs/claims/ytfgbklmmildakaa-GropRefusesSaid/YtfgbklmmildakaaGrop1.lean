/- Segments: rows of their own memory; rows that fit. -/
import Derived.Test.YtfgbklmmildakaaZone2
namespace Go.Proofs.Ytfgbklmmildakaa.D
open Go Go.Den
set_option linter.unusedSimpArgs false
set_option linter.unusedVariables false
set_option maxRecDepth 20000
set_option maxHeartbeats 8000000
theorem stv_pv (v : Val) : (stv v).pv = [.bool v.null, .int .i64 v.kind, .int .i64 v.int, .sl 1 (ints .u8 (bz v.bytes))] := rfl
theorem RowC_spec {r : List Val} (hr : R1 r) (hl : r.length ≤ 1000000) : dw E 31 [.sl 4 (r.map Val.pv)] [] = some (.nr 31 4 ((r.map stv).map Val.pv), []) := by
  have hg : ∀ {i : Nat} {v : Val}, r[i]? = some v → (r.map Val.pv)[i]? = some v.pv := fun h => by simp [h]
  have hL : (r.map Val.pv).length = r.length := List.length_map ..
  generalize hR : r.map Val.pv = R at *
  refine dw_in (fn := Try.f31) rfl body31 (by simp) ?_
  simp -implicitDefEqProofs (maxSteps := 4000000) (disch := omega) only [go_sem, go_sem_proc, dr, Nat.min_def, ↓reduceIte, hL]
  refine runs_for (fun i : Nat => (⟨[(3, .h 2097344), (6, .sl 4 R), (7, .int .i64 r.length), (8, .int .i64 i)], [(2097344, some ⟨true, .row 31 4 (((r.take i).map stv).map Val.pv)⟩)], 1⟩ : St)) r.length ?_ ?_ ?_
  · simp -implicitDefEqProofs (maxSteps := 4000000) (disch := omega) only [go_sem, go_sem_proc, dr, Nat.min_def, ↓reduceIte]
  · intro i hi
    obtain ⟨v, hv, hm, ht⟩ := take_get hi
    have hgv := hg hv
    have hV := Val_spec (nl := v.null) (k := v.kind) (i := v.int) (hr v hm)
    have hlen : (((r.take i).map stv).map Val.pv).length = i := by rw [List.length_map, List.length_map, List.length_take]; omega
    have hnext : ((r.take (i + 1)).map stv).map Val.pv = ((r.take i).map stv).map Val.pv ++ [[.bool v.null, .int .i64 v.kind, .int .i64 v.int, .sl 1 (ints .u8 (bz v.bytes))]] := by rw [ht, List.map_append, List.map_append]; rfl
    rw [hnext]
    generalize ((r.take i).map stv).map Val.pv = out at *
    clear hnext hg hv ht hR
    simp -implicitDefEqProofs (maxSteps := 4000000) (disch := omega) only [go_sem, go_sem_proc, dr, Nat.min_def, ↓reduceIte, hL, hgv, Val.pv, hV, hlen]
  · simp -implicitDefEqProofs (maxSteps := 4000000) (disch := omega) only [go_sem, go_sem_proc, dr, Nat.min_def, ↓reduceIte, List.take_length]
theorem still_sp {rows : List (List Val)} (h : RR rows) : dw E 30 [.sl 1 (rowsPV rows)] [] = some (.nr 27 1 (rowsPV (rows.map (List.map stv))), []) := by
  obtain ⟨h1, h2⟩ := h
  have hg : ∀ {i : Nat} {r : List Val}, rows[i]? = some r → (rowsPV rows)[i]? = some [.sl 4 (r.map Val.pv)] := fun h => by simp [rowsPV, h]
  have hL : (rowsPV rows).length = rows.length := List.length_map ..
  generalize hR : rowsPV rows = R at *
  refine dw_in (fn := Try.f30) rfl body30 (by simp) ?_
  simp -implicitDefEqProofs (maxSteps := 4000000) (disch := omega) only [go_sem, go_sem_proc, dr, Nat.min_def, ↓reduceIte, hL]
  refine runs_for (fun i : Nat => (⟨[(3, .h 2097344), (6, .sl 1 R), (7, .int .i64 rows.length), (8, .int .i64 i)], [(2097344, some ⟨true, .row 27 1 (rowsPV ((rows.take i).map (List.map stv)))⟩)], 1⟩ : St)) rows.length ?_ ?_ ?_
  · simp -implicitDefEqProofs (maxSteps := 4000000) (disch := omega) only [go_sem, go_sem_proc, dr, Nat.min_def, ↓reduceIte]
    rfl
  · intro i hi
    obtain ⟨r, hr, hm, ht⟩ := take_get hi
    have hgr := hg hr
    obtain ⟨hrl, hrr⟩ := h2 r hm
    have hV := RowC_spec hrr hrl
    have hlen : (rowsPV ((rows.take i).map (List.map stv))).length = i := by unfold rowsPV; rw [List.length_map, List.length_map, List.length_take]; omega
    have hnext : rowsPV ((rows.take (i + 1)).map (List.map stv)) = rowsPV ((rows.take i).map (List.map stv)) ++ [[.sl 4 ((r.map stv).map Val.pv)]] := by unfold rowsPV; rw [ht, List.map_append, List.map_append]; rfl
    rw [hnext]
    generalize rowsPV ((rows.take i).map (List.map stv)) = out at *
    clear hnext hg hr ht hR h2
    simp -implicitDefEqProofs (maxSteps := 4000000) (disch := omega) only [go_sem, go_sem_proc, dr, Nat.min_def, ↓reduceIte, hL, hgr, hV, hlen]
  · simp -implicitDefEqProofs (maxSteps := 4000000) (disch := omega) only [go_sem, go_sem_proc, dr, Nat.min_def, ↓reduceIte, List.take_length]
/-- a row, or nil -/
def rowO : Option (List Val) → PV
  | none => .nils
  | some r => .sl 4 (r.map Val.pv)
def rowsO (L : List (Option (List Val))) : List (List PV) := L.map fun o => [rowO o]
def vz (o : Option (List Val)) : List Val := o.getD []
theorem Fits_o {s : List Col} {o : Option (List Val)} (hs : 1 ≤ s.length ∧ s.length ≤ 1000000) : dw E 25 [.agg [.sl 3 (s.map Col.pv)], rowO o] [] = some (.bool (fits s (vz o)), []) := by
  cases o with
  | some r => exact Fits_spec hs.2
  | none =>
    have e : fits s (vz none) = false := by
      unfold fits vz
      rw [Option.getD_none]
      have : (([] : List Val).length == s.length) = false := by simp; intro h; simp [← h] at hs
      simp_all
    rw [e]
    have hl : (s.map Col.pv).length = s.length := List.length_map ..
    have h0 : ((0 : Int) = (s.length : Int)) = False := eq_false (by omega)
    have h1 : ((s.length : Int) = 0) = False := eq_false (by omega)
    show dw E _ [_, .nils] [] = _
    generalize s.map Col.pv = C at *
    refine dw_in (fn := Try.f25) rfl body25 (by simp) ?_
    simp -implicitDefEqProofs (maxSteps := 4000000) (disch := omega) only [go_sem, go_sem_proc, dr, Nat.min_def, ↓reduceIte, hl, h0, h1]
theorem bad_spec {s : List Col} {o : Option (List Val)} (hs : 1 ≤ s.length ∧ s.length ≤ 1000000) : dw E 24 [rowO o, .pc [.sl 3 (s.map Col.pv)]] [] = some (.bool (!fits s (vz o)), []) := by
  have hF := Fits_o (o := o) hs
  generalize s.map Col.pv = C at *
  cases o <;> simp only [rowO] at hF ⊢ <;> (refine dw_in (fn := Try.f24) rfl body24 (by simp) ?_) <;> simp -implicitDefEqProofs (maxSteps := 4000000) (disch := omega) only [go_sem, go_sem_proc, dr, Nat.min_def, ↓reduceIte, hF]
theorem IF_fit {s : List Col} {L : List (Option (List Val))} (hs : 1 ≤ s.length ∧ s.length ≤ 1000000) (h : ∀ o ∈ L, fits s (vz o) = true) (hl : L.length ≤ 1000000) : dw E 37 [.sl 1 (rowsO L), .fn 24 [.pc [.sl 3 (s.map Col.pv)]]] [] = some (.int .i64 (-1), []) := by
  have hg : ∀ {i : Nat} {o : Option (List Val)}, L[i]? = some o → (rowsO L)[i]? = some [rowO o] := fun ho => by simp [ho, rowsO]
  have hM : (rowsO L).length = L.length := List.length_map ..
  have hB := fun o => bad_spec (o := o) hs
  generalize rowsO L = M at *
  generalize s.map Col.pv = C at *
  refine dw_in (fn := Try.f37) rfl body37 (by simp) ?_
  simp -implicitDefEqProofs (maxSteps := 4000000) (disch := omega) only [go_sem, go_sem_proc, dr, Nat.min_def, ↓reduceIte, hM]
  refine runs_for (fun i : Nat => (⟨[(0, .sl 1 M), (1, .fn 24 [.pc [.sl 3 C]]), (7, .int .i64 L.length), (8, .int .i64 i)], [], 1⟩ : St)) L.length ?_ ?_ ?_
  · simp -implicitDefEqProofs (maxSteps := 4000000) (disch := omega) only [go_sem, go_sem_proc, dr, Nat.min_def, ↓reduceIte]
  · intro i hi
    obtain ⟨o, ho, hm, ht⟩ := take_get hi
    have hB' := hB o
    rw [h o hm, Bool.not_true] at hB'
    have hgo := hg ho
    clear h ht hg hB ho hm
    cases o <;> simp only [rowO] at hB' hgo <;> simp -implicitDefEqProofs (maxSteps := 4000000) (disch := omega) only [go_sem, go_sem_proc, dr, Nat.min_def, ↓reduceIte, hgo, hM, hB']
  · simp -implicitDefEqProofs (maxSteps := 4000000) (disch := omega) only [go_sem, go_sem_proc, dr, Nat.min_def, ↓reduceIte]
theorem IF_bad {s : List Col} {L : List (Option (List Val))} {j : Nat} {oj : Option (List Val)} (hs : 1 ≤ s.length ∧ s.length ≤ 1000000) (hj : L[j]? = some oj) (hbad : fits s (vz oj) = false) (hlow : ∀ i, i < j → ∀ o, L[i]? = some o → fits s (vz o) = true) (hl : L.length ≤ 1000000) :
    dw E 37 [.sl 1 (rowsO L), .fn 24 [.pc [.sl 3 (s.map Col.pv)]]] [] = some (.int .i64 j, []) := by
  have hg : ∀ {i : Nat} {o : Option (List Val)}, L[i]? = some o → (rowsO L)[i]? = some [rowO o] := fun ho => by simp [ho, rowsO]
  have hM : (rowsO L).length = L.length := List.length_map ..
  have hB := fun o => bad_spec (o := o) hs
  have hjl : j < L.length := (List.getElem?_eq_some_iff.1 hj).1
  generalize rowsO L = M at *
  generalize s.map Col.pv = C at *
  refine dw_in (fn := Try.f37) rfl body37 (by simp) ?_
  simp -implicitDefEqProofs (maxSteps := 4000000) (disch := omega) only [go_sem, go_sem_proc, dr, Nat.min_def, ↓reduceIte, hM]
  refine runs_any (fun i : Nat => (⟨[(0, .sl 1 M), (1, .fn 24 [.pc [.sl 3 C]]), (7, .int .i64 L.length), (8, .int .i64 i)], [], 1⟩ : St)) (fun i => L.length - i) 0 (fun i => i ≤ j) (Nat.zero_le _) ?_ ?_
  · simp -implicitDefEqProofs (maxSteps := 4000000) (disch := omega) only [go_sem, go_sem_proc, dr, Nat.min_def, ↓reduceIte]
  · intro i hij
    obtain ⟨o, ho, hm, ht⟩ := take_get (l := L) (i := i) (by omega)
    have hB' := hB o
    have hgo := hg ho
    have hiL : i < L.length := by omega
    by_cases hc : i = j
    · subst hc
      rw [hj] at ho
      injection ho with ho
      subst ho
      rw [hbad, Bool.not_false] at hB'
      clear hlow ht hg hB hm
      cases oj <;> simp only [rowO] at hB' hgo <;> simp -implicitDefEqProofs (maxSteps := 4000000) (disch := omega) only [go_sem, go_sem_proc, dr, Nat.min_def, ↓reduceIte, hgo, hM, hB']
    · rw [hlow i (by omega) o ho, Bool.not_true] at hB'
      clear hlow ht hg hB hm ho
      cases o <;> simp only [rowO] at hB' hgo <;> simp -implicitDefEqProofs (maxSteps := 4000000) (disch := omega) only [go_sem, go_sem_proc, dr, Nat.min_def, ↓reduceIte, hgo, hM, hB']
      all_goals exact ⟨i + 1, rfl, by omega, by omega⟩
theorem first_bad {s : List Col} : ∀ {L : List (Option (List Val))}, ¬ (∀ o ∈ L, fits s (vz o) = true) → ∃ (j : Nat) (oj : Option (List Val)), L[j]? = some oj ∧ fits s (vz oj) = false ∧ ∀ i, i < j → ∀ o, L[i]? = some o → fits s (vz o) = true
  | [], h => absurd (fun o ho => by simp at ho) h
  | x :: r, h => by
    by_cases hx : fits s (vz x) = true
    · have hr : ¬ (∀ o ∈ r, fits s (vz o) = true) := fun hr => h fun o ho => by
        rcases List.mem_cons.1 ho with rfl | ho
        · exact hx
        · exact hr o ho
      obtain ⟨j, oj, h1, h2, h3⟩ := first_bad hr
      refine ⟨j + 1, oj, by simpa using h1, h2, fun i hi o ho => ?_⟩
      cases i with
      | zero => simp at ho; subst ho; exact hx
      | succ i => exact h3 i (by omega) o (by simpa using ho)
    · exact ⟨0, x, rfl, by simpa using hx, fun i hi => absurd hi (Nat.not_lt_zero i)⟩
def allFit (s : List Col) (L : List (Option (List Val))) : Bool := L.all fun o => fits s (vz o)
theorem CFr_spec {s : List Col} {L : List (Option (List Val))} (hs : 1 ≤ s.length ∧ s.length ≤ 1000000) (hl : L.length ≤ 1000000) : dw E 27 [.sl 1 (rowsO L), .fn 24 [.pc [.sl 3 (s.map Col.pv)]]] [] = some (.bool (!allFit s L), []) := by
  by_cases h : ∀ o ∈ L, fits s (vz o) = true
  · have e : allFit s L = true := by unfold allFit; exact List.all_eq_true.2 h
    have hI := IF_fit hs h hl
    rw [e]
    refine dw_in (fn := Try.f27) rfl body27 (by simp) ?_
    simp -implicitDefEqProofs (maxSteps := 4000000) (disch := omega) only [go_sem, go_sem_proc, dr, Nat.min_def, ↓reduceIte, hI, Bool.not_true]
  · have e : allFit s L = false := by unfold allFit; rw [Bool.eq_false_iff]; exact fun hh => h (List.all_eq_true.1 hh)
    obtain ⟨j, oj, h1, h2, h3⟩ := first_bad h
    have hI := IF_bad hs h1 h2 h3 hl
    rw [e]
    refine dw_in (fn := Try.f27) rfl body27 (by simp) ?_
    simp -implicitDefEqProofs (maxSteps := 4000000) (disch := omega) only [go_sem, go_sem_proc, dr, Nat.min_def, ↓reduceIte, hI, Bool.not_false]
end Go.Proofs.Ytfgbklmmildakaa.D
