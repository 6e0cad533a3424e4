/- Columns of bytes: plain, runs. -/
import Derived.Test.YtmaehmacngldbaaBitp2
import Derived.Test.YtmaehmacngldbaaCode3
import Derived.Test.YtmaehmacngldbaaDenL2
import Derived.Test.YtmaehmacngldbaaDenP
namespace Go.Proofs.Ytmaehmacngldbaa.D
open Go Go.Den
set_option linter.unusedSimpArgs false
set_option linter.unusedVariables false
set_option maxRecDepth 20000
set_option maxHeartbeats 8000000
/-- rows of bytes, each at most 64 -/
def B64 (L : List RB') : Prop := ∀ o ∈ L, R8 (bz o) ∧ (bz o).length ≤ 64
/-- a row of rows of bytes, or nil -/
def IsR (X : PV) (L : List RB') : Prop := X = .sl 1 (L.map brow) ∨ (X = .nils ∧ L = [])
theorem B64.sub {a b : List RB'} (h : B64 a) (hs : ∀ x ∈ b, x ∈ a) : B64 b := fun z hz => h z (hs z hz)
theorem toldB_len {o : RB'} (h : (bz o).length ≤ 64) : (toldO false o).length ≤ 74 := by
  have := num_len10 (u := ((bz o).length : Int)) (by omega) (by omega)
  simp only [toldO, Bool.false_eq_true, if_false, List.length_append]
  omega
theorem toldLB_len {L : List RB'} (h : B64 L) : (toldL false L).length ≤ 74 * L.length := by
  induction L with
  | nil => simp [toldL]
  | cons x r ih =>
    have h1 := toldB_len (h x (by simp)).2
    have := ih (h.sub fun z hz => by simp [hz])
    rw [toldL_cons, List.length_append, List.length_cons]
    omega
theorem plain_sl {L : List RB'} (h : B64 L) (hl : L.length ≤ 65535) : dw E 40 [.sl 1 (L.map brow)] [] = some (.nr 5 1 (ints .u8 (toldL false L)), []) := by
  refine dw_in (fn := Try.f40) rfl body40 (by simp) ?_
  simp -implicitDefEqProofs (maxSteps := 4000000) (disch := omega) only [go_sem, go_sem_proc, dr, Nat.min_def, ↓reduceIte]
  refine runs_for (fun i : Nat => (⟨[(3, .h 2097344), (6, .sl 1 (L.map brow)), (7, .int .i64 L.length), (8, .int .i64 i)], [(2097344, some ⟨true, .row 5 1 (ints .u8 (toldL false (L.take i)))⟩)], 1⟩ : St)) L.length ?_ ?_ ?_
  · simp -implicitDefEqProofs (maxSteps := 4000000) (disch := omega) only [go_sem, go_sem_proc, dr, Nat.min_def, ↓reduceIte, List.take_zero, List.length_map]
    rfl
  · intro i hi
    obtain ⟨o, ho, hm, ht⟩ := take_get hi
    have hr := h o hm
    have hlen := toldLB_len (L := L.take i) (h.sub fun z hz => List.mem_of_mem_take hz)
    simp only [List.length_take] at hlen
    have hN := Bytes_spec (o := some (toldL false (L.take i))) (q := o) (by show (toldL false (L.take i)).length ≤ _; omega) (by omega)
    clear hlen h
    change dw E 62 [.sl 1 (ints .u8 (toldL false (L.take i))), bl o] [] = some (.nr 5 1 (ints .u8 (toldL false (L.take i) ++ num (bz o).length ++ bz o)), []) at hN
    simp -implicitDefEqProofs (maxSteps := 4000000) (disch := omega) only [go_sem, go_sem_proc, dr, Nat.min_def, ↓reduceIte, List.getElem?_map, Option.map_some, ho, brow, hN]
    rw [ht, toldL_snoc, List.append_assoc]
    rfl
  · simp -implicitDefEqProofs (maxSteps := 4000000) (disch := omega) only [go_sem, go_sem_proc, dr, Nat.min_def, ↓reduceIte, List.take_length]
theorem plain_nils : dw E 40 [.nils] [] = some (.nr 5 1 [], []) := by
  refine dw_in (fn := Try.f40) rfl body40 (by simp) ?_
  simp -implicitDefEqProofs (maxSteps := 4000000) (disch := omega) only [go_sem, go_sem_proc, dr, Nat.min_def, ↓reduceIte]
  refine runs_for (fun i : Nat => (⟨[(3, .h 2097344), (6, .nils), (7, .int .i64 0), (8, .int .i64 i)], [(2097344, some ⟨true, .row 5 1 []⟩)], 1⟩ : St)) 0 ?_ (fun i h => absurd h (Nat.not_lt_zero i)) ?_
  · simp -implicitDefEqProofs (maxSteps := 4000000) (disch := omega) only [go_sem, go_sem_proc, dr, Nat.min_def, ↓reduceIte]
  · simp -implicitDefEqProofs (maxSteps := 4000000) (disch := omega) only [go_sem, go_sem_proc, dr, Nat.min_def, ↓reduceIte]
theorem plain_spec {X : PV} {L : List RB'} (hX : IsR X L) (h : B64 L) (hl : L.length ≤ 65535) : dw E 40 [X] [] = some (.nr 5 1 (ints .u8 (toldL false L)), []) := by
  rcases hX with rfl | ⟨rfl, rfl⟩
  · exact plain_sl h hl
  · exact plain_nils
theorem EqB {a b : RB'} (ha : R8 (bz a)) (hb : R8 (bz b)) : dw E 23 [bl a, bl b] [] = some (.bool (decide (bz a = bz b)), []) := by
  rw [← toU8_beq ha hb]
  exact Equal_spec
theorem runs_nils : dw E 41 [.nils] [] = some (.nr 5 1 [], []) := by
  refine dw_in (fn := Try.f41) rfl body41 (by simp) ?_
  simp -implicitDefEqProofs (maxSteps := 4000000) (disch := omega) only [go_sem, go_sem_proc, dr, Nat.min_def, ↓reduceIte]
  refine runs_for (fun i : Nat => (⟨[(0, .nils), (3, .h 2097344)], [(2097344, some ⟨true, .row 5 1 []⟩)], 1⟩ : St)) 0 ?_ (fun i h => absurd h (Nat.not_lt_zero i)) ?_
  · simp -implicitDefEqProofs (maxSteps := 4000000) (disch := omega) only [go_sem, go_sem_proc, dr, Nat.min_def, ↓reduceIte]
  · simp -implicitDefEqProofs (maxSteps := 4000000) (disch := omega) only [go_sem, go_sem_proc, dr, Nat.min_def, ↓reduceIte]
theorem rnsB_len : ∀ (n : Nat) {L : List RB'}, L.length ≤ n → L.length ≤ 1000000 → B64 L → (rnsO false L).length ≤ 84 * L.length ∧ R8 (rnsO false L)
  | _, [], _, _, _ => ⟨by rw [rnsO_nil]; simp, by rw [rnsO_nil]; intro z hz; simp at hz⟩
  | 0, x :: r, h, _, _ => by simp at h
  | n + 1, x :: r, h, hl, hr => by
    have hx := hr x (by simp)
    have hle := rnO_le x r
    simp only [List.length_cons] at h hl ⊢
    obtain ⟨i1, i2⟩ := rnsB_len n (L := r.drop (rnO x r)) (by simp; omega) (by simp; omega) (hr.sub fun z hz => by simp [List.mem_of_mem_drop hz])
    rw [rnsO_cons]
    have c1 : ((1 + rnO x r : Nat) : Int) < 18446744073709551616 := by omega
    have a := num_len10 (u := ((1 + rnO x r : Nat) : Int)) (by omega) c1
    have b := toldB_len hx.2
    have h8 : R8 (toldO false x) := by
      simp only [toldO, Bool.false_eq_true, if_false]
      exact (num_r8 (by omega) (by omega)).append hx.1
    refine ⟨?_, ((num_r8 (by omega) c1).append h8).append i2⟩
    simp only [List.length_append, List.length_drop] at i1 ⊢
    omega
theorem runs_sl {L : List RB'} (h : B64 L) (hl : L.length ≤ 65535) : dw E 41 [.sl 1 (L.map brow)] [] = some (.nr 5 1 (ints .u8 (rnsO false L)), []) := by
  have hb := (rnsB_len L.length (Nat.le_refl _) (by omega) h).1
  refine dw_in (fn := Try.f41) rfl body41 (by simp) ?_
  simp -implicitDefEqProofs (maxSteps := 4000000) (disch := omega) only [go_sem, go_sem_proc, dr, Nat.min_def, ↓reduceIte]
  refine runs_any (fun a : List RB' × List Int => (⟨[(0, .sl 1 (a.1.map brow)), (3, .h 2097344)], [(2097344, some ⟨true, .row 5 1 (ints .u8 a.2)⟩)], 1⟩ : St)) (fun a => a.1.length) (L, []) (fun a => a.2 ++ rnsO false a.1 = rnsO false L ∧ a.1.length ≤ 65535 ∧ B64 a.1) ⟨rfl, hl, h⟩ ?_ ?_
  · simp -implicitDefEqProofs (maxSteps := 4000000) (disch := omega) only [go_sem, go_sem_proc, dr, Nat.min_def, ↓reduceIte, ints, List.map_nil]
  · rintro ⟨m, out⟩ ⟨he, hml, hmr⟩
    dsimp only at he hml hmr ⊢
    have hle := congrArg List.length he
    rw [List.length_append] at hle
    cases m with
    | nil =>
      rw [rnsO_nil, List.append_nil] at he
      simp -implicitDefEqProofs (maxSteps := 4000000) (disch := omega) only [go_sem, go_sem_proc, dr, Nat.min_def, ↓reduceIte, List.length_nil, List.map_nil, he]
    | cons x r =>
      have hx := hmr x (by simp)
      have hk := rnO_le x r
      rw [rnsO_cons] at he
      have c1 : ((1 + rnO x r : Nat) : Int) < 18446744073709551616 := by simp only [List.length_cons] at hml; omega
      have hn1 := num_len10 (u := ((1 + rnO x r : Nat) : Int)) (by omega) c1
      have hN1 := Num_sl (zs := out) (u := ((1 + rnO x r : Nat) : Int)) (by omega) (by omega) c1
      have hN2 := Bytes_spec (o := some (out ++ num ((1 + rnO x r : Nat) : Int))) (q := x) (by show (out ++ num ((1 + rnO x r : Nat) : Int)).length ≤ _; rw [List.length_append]; omega) (by omega)
      change dw E 62 [.sl 1 (ints .u8 (out ++ num ((1 + rnO x r : Nat) : Int))), bl x] [] = some (.nr 5 1 (ints .u8 (out ++ num ((1 + rnO x r : Nat) : Int) ++ num (bz x).length ++ bz x)), []) at hN2
      have hget : ∀ j, j < rnO x r → ∃ y, r[j]? = some y ∧ bz y = bz x := fun j hj => rnO_get hj
      have hend : ∀ y, r[rnO x r]? = some y → bz y ≠ bz x := fun y hy => rnO_end hy
      have ht : toldO false x = num ((bz x).length : Int) ++ bz x := rfl
      have hq0 : (x :: r)[0]? = some x := rfl
      simp only [List.length_cons] at hml
      generalize hkk : rnO x r = k at *
      clear hb h hl hle
      rw [show ((1 + k : Nat) : Int) = (k : Int) + 1 by omega] at hN1 hN2 he
      have hm0 : ((x :: r).map brow)[0]? = some [bl x] := rfl
      generalize hM : (x :: r).map brow = M at *
      have hMl : M.length = r.length + 1 := by rw [← hM]; simp
      have hMg : ∀ (j : Nat) y, r[j]? = some y → M[j + 1]? = some [bl y] := fun j y hy => by rw [← hM]; simp [hy, brow]
      have hMd : (M.take (r.length + 1)).drop (k + 1) = (r.drop k).map brow := by rw [List.take_of_length_le (by omega), ← hM]; simp [List.map_drop]
      simp -implicitDefEqProofs (maxSteps := 4000000) (disch := omega) only [go_sem, go_sem_proc, dr, Nat.min_def, ↓reduceIte, hMl]
      refine runs_for (fun i : Nat => (⟨[(0, .sl 1 M), (3, .h 2097344), (4, .int .i64 ((i : Int) + 1))], [(2097344, some ⟨true, .row 5 1 (ints .u8 out)⟩)], 1⟩ : St)) k ?_ ?_ ?_
      · simp -implicitDefEqProofs (maxSteps := 4000000) (disch := omega) only [go_sem, go_sem_proc, dr, Nat.min_def, ↓reduceIte]
      · intro i hi
        obtain ⟨y, hy, hyx⟩ := hget i hi
        have hE := EqB (a := y) (b := x) (by rw [hyx]; exact hx.1) hx.1
        rw [decide_eq_true hyx] at hE
        have hg := hMg i y hy
        have hj : ((i : Int) + 1).toNat = i + 1 := by omega
        clear hget hend hN1 hN2 hmr hMg
        simp -implicitDefEqProofs (maxSteps := 4000000) (disch := omega) only [go_sem, go_sem_proc, dr, Nat.min_def, ↓reduceIte, hMl, hg, hj, hm0, hE]
        ((repeat' split) <;> (change _ = true; kernel_rfl))
      · have hj : ((k : Int) + 1).toNat = k + 1 := by omega
        have hu : ((k : Int) + 1) % 18446744073709551616 = (k : Int) + 1 := by omega
        have fin : ∀ z ∈ r.drop k, z ∈ x :: r := fun z hz => by simp [List.mem_of_mem_drop hz]
        have hh : out ++ num ((k : Int) + 1) ++ num (bz x).length ++ bz x ++ rnsO false (r.drop k) = rnsO false L := by rw [← he, ht]; simp only [List.append_assoc]
        rcases hq : r[k]? with _ | y
        · have hkr : k = r.length := by
            have := List.getElem?_eq_none_iff.1 hq
            omega
          clear hget hend hq hMg
          simp -implicitDefEqProofs (maxSteps := 4000000) (disch := omega) only [go_sem, go_sem_proc, dr, Nat.min_def, ↓reduceIte, hMl, hj, hu, hN1, hN2, hm0, hMd]
          exact ⟨by ((repeat' split) <;> (change _ = true; kernel_rfl)), by ((repeat' split) <;> (change _ = true; kernel_rfl)), (r.drop k, out ++ num ((k : Int) + 1) ++ num (bz x).length ++ bz x), by simp only [ints, List.map_append, List.append_assoc], ⟨hh, by simp only [List.length_drop]; omega, hmr.sub fin⟩, by simp only [List.length_drop]; omega⟩
        · have hy := hend y hq
          have hkr : k < r.length := (List.getElem?_eq_some_iff.1 hq).1
          have hE := EqB (a := y) (b := x) (hmr y (by simp [List.mem_of_getElem? hq])).1 hx.1
          rw [decide_eq_false hy] at hE
          have hg := hMg k y hq
          clear hget hend hq hy hMg
          simp -implicitDefEqProofs (maxSteps := 4000000) (disch := omega) only [go_sem, go_sem_proc, dr, Nat.min_def, ↓reduceIte, hMl, hj, hu, hg, hE, hm0, hN1, hN2, hMd]
          exact ⟨by ((repeat' split) <;> (change _ = true; kernel_rfl)), by ((repeat' split) <;> (change _ = true; kernel_rfl)), (r.drop k, out ++ num ((k : Int) + 1) ++ num (bz x).length ++ bz x), by simp only [ints, List.map_append, List.append_assoc], ⟨hh, by simp only [List.length_drop]; omega, hmr.sub fin⟩, by simp only [List.length_drop]; omega⟩
theorem runs_spec {X : PV} {L : List RB'} (hX : IsR X L) (h : B64 L) (hl : L.length ≤ 65535) : dw E 41 [X] [] = some (.nr 5 1 (ints .u8 (rnsO false L)), []) := by
  rcases hX with rfl | ⟨rfl, rfl⟩
  · exact runs_sl h hl
  · rw [rnsO_nil]; exact runs_nils
end Go.Proofs.Ytmaehmacngldbaa.D
