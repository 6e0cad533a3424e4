/- Columns of numbers: plain, runs, frames. -/
import Derived.Test.YtojaklgmojmjeaaBitp2
import Derived.Test.YtojaklgmojmjeaaCode3
import Derived.Test.YtojaklgmojmjeaaDenL2
import Derived.Test.YtojaklgmojmjeaaDenP
namespace Go.Proofs.Ytojaklgmojmjeaa.D
open Go Go.Den
set_option linter.unusedSimpArgs false
set_option linter.unusedVariables false
set_option maxRecDepth 20000
set_option maxHeartbeats 8000000
/-- a row of numbers, or nil -/
def IsI (X : PV) (l : List Int) : Prop := X = .sl 1 (ints .i64 l) ∨ (X = .nils ∧ l = [])
theorem plain_sl {l : List Int} (h : Ri64 l) (hl : l.length ≤ 65535) : dw E 39 [.sl 1 (ints .i64 l)] [] = some (.nr 5 1 (ints .u8 (zigs l)), []) := by
  refine dw_in (fn := Try.f39) rfl body39 (by simp) ?_
  simp -implicitDefEqProofs (maxSteps := 4000000) (disch := omega) only [go_sem, go_sem_proc, dr, Nat.min_def, ↓reduceIte]
  refine runs_for (fun i : Nat => (⟨[(3, .h 2097344), (6, .sl 1 (ints .i64 l)), (7, .int .i64 l.length), (8, .int .i64 i)], [(2097344, some ⟨true, .row 5 1 (ints .u8 (zigs (l.take i)))⟩)], 1⟩ : St)) l.length ?_ ?_ ?_
  · simp -implicitDefEqProofs (maxSteps := 4000000) (disch := omega) only [go_sem, go_sem_proc, dr, Nat.min_def, ↓reduceIte, List.take_zero, zigs_nil]
    rfl
  · intro i hi
    obtain ⟨x, hx, hm, ht⟩ := take_get hi
    have hr := h x hm
    have hZ := Zig_spec hr.1 hr.2
    have hz := zig_r hr
    have hlen := zigs_len (l := l.take i) (h.sub fun z hz => List.mem_of_mem_take hz)
    simp only [List.length_take] at hlen
    have hN := Num_sl (zs := zigs (l.take i)) (u := zig x) (by omega) hz.1 hz.2
    clear hlen h
    simp -implicitDefEqProofs (maxSteps := 4000000) (disch := omega) only [go_sem, go_sem_proc, dr, Nat.min_def, ↓reduceIte, hx, hZ, hN]
    rw [ht, zigs_snoc]
  · simp -implicitDefEqProofs (maxSteps := 4000000) (disch := omega) only [go_sem, go_sem_proc, dr, Nat.min_def, ↓reduceIte, List.take_length]
theorem plain_nils : dw E 39 [.nils] [] = some (.nr 5 1 [], []) := by
  refine dw_in (fn := Try.f39) rfl body39 (by simp) ?_
  simp -implicitDefEqProofs (maxSteps := 4000000) (disch := omega) only [go_sem, go_sem_proc, dr, Nat.min_def, ↓reduceIte]
  refine runs_for (fun i : Nat => (⟨[(3, .h 2097344), (6, .nils), (7, .int .i64 0), (8, .int .i64 i)], [(2097344, some ⟨true, .row 5 1 []⟩)], 1⟩ : St)) 0 ?_ (fun i h => absurd h (Nat.not_lt_zero i)) ?_
  · simp -implicitDefEqProofs (maxSteps := 4000000) (disch := omega) only [go_sem, go_sem_proc, dr, Nat.min_def, ↓reduceIte]
  · simp -implicitDefEqProofs (maxSteps := 4000000) (disch := omega) only [go_sem, go_sem_proc, dr, Nat.min_def, ↓reduceIte]
theorem plain_spec {X : PV} {l : List Int} (hX : IsI X l) (h : Ri64 l) (hl : l.length ≤ 65535) : dw E 39 [X] [] = some (.nr 5 1 (ints .u8 (zigs l)), []) := by
  rcases hX with rfl | ⟨rfl, rfl⟩
  · exact plain_sl h hl
  · exact plain_nils
theorem Min_spec {l : List Int} (hn : 0 < l.length) (hl : l.length ≤ 65535) : dw E 64 [.sl 1 (ints .i64 l)] [] = some (.int .i64 (minL l), []) := by
  cases l with
  | nil => simp at hn
  | cons a r =>
    simp only [List.length_cons] at hl
    clear hn
    refine dw_in (fn := Try.f64) rfl body64 (by simp) ?_
    simp -implicitDefEqProofs (maxSteps := 4000000) (disch := omega) only [go_sem, go_sem_proc, dr, Nat.min_def, ↓reduceIte, List.length_cons, List.getElem?_cons_zero]
    refine runs_for (fun i : Nat => (⟨[(0, .sl 1 (ints .i64 (a :: r))), (3, .int .i64 ((r.take i).foldl (fun a b => if b < a then b else a) a)), (4, .int .i64 ((i : Int) + 1))], [], 1⟩ : St)) r.length ?_ ?_ ?_
    · simp -implicitDefEqProofs (maxSteps := 4000000) (disch := omega) only [go_sem, go_sem_proc, dr, Nat.min_def, ↓reduceIte, List.take_zero, List.foldl_nil]
    · intro i hi
      obtain ⟨x, hx, hm, ht⟩ := take_get hi
      have hg : (a :: r)[i + 1]? = some x := by simpa using hx
      rw [ht, List.foldl_append, List.foldl_cons, List.foldl_nil]
      generalize (r.take i).foldl (fun a b => if b < a then b else a) a = m
      have hj : ((i : Int) + 1).toNat = i + 1 := by omega
      clear ht hm hx
      simp -implicitDefEqProofs (maxSteps := 4000000) (disch := omega) only [go_sem, go_sem_proc, dr, Nat.min_def, ↓reduceIte, hg, hj, List.length_cons]
    · simp -implicitDefEqProofs (maxSteps := 4000000) (disch := omega) only [go_sem, go_sem_proc, dr, Nat.min_def, ↓reduceIte, List.length_cons, List.take_length, minL]
theorem Max_spec {l : List Int} (hn : 0 < l.length) (hl : l.length ≤ 65535) : dw E 65 [.sl 1 (ints .i64 l)] [] = some (.int .i64 (maxL l), []) := by
  cases l with
  | nil => simp at hn
  | cons a r =>
    simp only [List.length_cons] at hl
    clear hn
    refine dw_in (fn := Try.f65) rfl body65 (by simp) ?_
    simp -implicitDefEqProofs (maxSteps := 4000000) (disch := omega) only [go_sem, go_sem_proc, dr, Nat.min_def, ↓reduceIte, List.length_cons, List.getElem?_cons_zero]
    refine runs_for (fun i : Nat => (⟨[(0, .sl 1 (ints .i64 (a :: r))), (3, .int .i64 ((r.take i).foldl (fun a b => if a < b then b else a) a)), (4, .int .i64 ((i : Int) + 1))], [], 1⟩ : St)) r.length ?_ ?_ ?_
    · simp -implicitDefEqProofs (maxSteps := 4000000) (disch := omega) only [go_sem, go_sem_proc, dr, Nat.min_def, ↓reduceIte, List.take_zero, List.foldl_nil]
    · intro i hi
      obtain ⟨x, hx, hm, ht⟩ := take_get hi
      have hg : (a :: r)[i + 1]? = some x := by simpa using hx
      rw [ht, List.foldl_append, List.foldl_cons, List.foldl_nil]
      generalize (r.take i).foldl (fun a b => if a < b then b else a) a = m
      have hj : ((i : Int) + 1).toNat = i + 1 := by omega
      clear ht hm hx
      simp -implicitDefEqProofs (maxSteps := 4000000) (disch := omega) only [go_sem, go_sem_proc, dr, Nat.min_def, ↓reduceIte, hg, hj, List.length_cons]
    · simp -implicitDefEqProofs (maxSteps := 4000000) (disch := omega) only [go_sem, go_sem_proc, dr, Nat.min_def, ↓reduceIte, List.length_cons, List.take_length, maxL]
theorem far_le {l : List Int} (h : Ri64 l) {x : Int} (hx : x ∈ l) : 0 ≤ x - minL l ∧ x - minL l < 18446744073709551616 := far_R64 h _ (List.mem_map.2 ⟨x, hx, rfl⟩)
theorem sub64 (a b : Int) : (a % 18446744073709551616 - b % 18446744073709551616) % 18446744073709551616 = (a - b) % 18446744073709551616 := by omega
theorem frame_nil {X : PV} (hX : IsI X []) : dw E 41 [X] [] = some (.nils, []) := by
  rcases hX with rfl | ⟨rfl, _⟩ <;> (refine dw_in (fn := Try.f41) rfl body41 (by simp) ?_) <;> simp -implicitDefEqProofs (maxSteps := 4000000) (disch := omega) only [go_sem, go_sem_proc, dr, Nat.min_def, ↓reduceIte, List.length_nil, ints, List.map_nil]
theorem frame_spec {l : List Int} (hn : 0 < l.length) (h : Ri64 l) (hl : l.length ≤ 65535) : dw E 41 [.sl 1 (ints .i64 l)] [] = some (.nr 5 1 (ints .u8 (frameL l)), []) := by
  have hne : l ≠ [] := fun h0 => by subst h0; simp at hn
  have hMi := Min_spec hn hl
  have hMa := Max_spec hn hl
  have ha := h _ (minL_mem hne)
  have hb := h _ (maxL_mem hne)
  have hab := maxL_ge (minL_mem hne)
  have hw := wideL_le h
  have hW := Width_spec (u := (maxL l - minL l).toNat) (by omega)
  have e1 : (((maxL l - minL l).toNat : Nat) : Int) = maxL l - minL l := by omega
  rw [e1] at hW
  have hP := Pack_spec (n := wideL l) (l := l.map fun x => x - minL l) (by simpa using (by omega : l.length ≤ 100000)) (far_R64 h)
  rw [heldN_nat hw] at hP
  have hZ := Zig_spec ha.1 ha.2
  have hz := zig_r ha
  have hN := Num_nils (u := zig (minL l)) hz.1 hz.2
  have hfr : frameL l = num (zig (minL l)) ++ (wideL l : Int) :: packL (wideL l) (l.map fun x => x - minL l) := by unfold frameL; rw [if_neg hne]
  rw [hfr]
  have hpl := packL_length (wideL l) (l.map fun x => x - minL l)
  rw [List.length_map] at hpl
  have hpm : wideL l * l.length ≤ 64 * 65535 := Nat.mul_le_mul hw hl
  have hnl := num_len10 hz.1 hz.2
  have hsub : ∀ x ∈ l, (x % 18446744073709551616 - minL l % 18446744073709551616) % 18446744073709551616 = x - minL l := fun x hx => by
    have := far_le h hx
    rw [sub64]; omega
  have hsm := hsub _ (maxL_mem hne)
  obtain ⟨C, hC⟩ : ∃ C : Int, (l.length : Int) = C := ⟨_, rfl⟩
  have hC0 : 0 < C ∧ C ≤ 65535 := by omega
  change dw E 61 [.int .u64 (maxL l - minL l)] [] = some (.int .i64 (wideL l : Nat), []) at hW
  generalize maxL l = M at hMa hb hab hW hsm
  generalize hmn : minL l = m at *
  refine dw_in (fn := Try.f41) rfl body41 (by simp) ?_
  clear hn
  simp -implicitDefEqProofs (maxSteps := 4000000) (disch := omega) only [go_sem, go_sem_proc, dr, Nat.min_def, ↓reduceIte, hC, hMi, hMa, hsm, hW]
  refine runs_for (fun i : Nat => (⟨[(3, .int .i64 m), (4, .int .i64 (wideL l)), (5, .h 2097472), (20, .sl 1 (ints .i64 l)), (21, .int .i64 C), (22, .int .i64 i)], [(2097472, some ⟨true, .row 59 1 (ints .u64 ((l.take i).map fun x => x - m))⟩)], 1⟩ : St)) l.length ?_ ?_ ?_
  · simp -implicitDefEqProofs (maxSteps := 4000000) (disch := omega) only [go_sem, go_sem_proc, dr, Nat.min_def, ↓reduceIte, List.take_zero, List.map_nil]
    rfl
  · intro i hi
    obtain ⟨x, hx, hm, ht⟩ := take_get hi
    have hs := hsub x hm
    have hlt : (l.take i).length ≤ 65535 := by simp; omega
    have hiC : (i : Int) < C := by omega
    clear hpl hpm hnl hW hP hN hZ h hsm hi
    simp -implicitDefEqProofs (maxSteps := 4000000) (disch := omega) only [go_sem, go_sem_proc, dr, Nat.min_def, ↓reduceIte, hx, hs, List.length_map]
    rw [ht, List.map_append, List.map_cons, List.map_nil]
  · have hg : (num (zig m)).length + 1 + (wideL l * l.length + 7) / 8 ≤ 600000 := by omega
    have hw8 : ((wideL l : Nat) : Int) % 256 = ((wideL l : Nat) : Int) := by omega
    clear hW hb hab hsm hsub h
    simp -implicitDefEqProofs (maxSteps := 4000000) (disch := omega) only [go_sem, go_sem_proc, dr, Nat.min_def, ↓reduceIte, hC, List.take_length, hZ, hN, hP, hw8, hpl, List.append_assoc, List.singleton_append]
theorem runs_nils : dw E 40 [.nils] [] = some (.nr 5 1 [], []) := by
  refine dw_in (fn := Try.f40) rfl body40 (by simp) ?_
  simp -implicitDefEqProofs (maxSteps := 4000000) (disch := omega) only [go_sem, go_sem_proc, dr, Nat.min_def, ↓reduceIte]
  refine runs_for (fun i : Nat => (⟨[(0, .nils), (3, .h 2097344)], [(2097344, some ⟨true, .row 5 1 []⟩)], 1⟩ : St)) 0 ?_ (fun i h => absurd h (Nat.not_lt_zero i)) ?_
  · simp -implicitDefEqProofs (maxSteps := 4000000) (disch := omega) only [go_sem, go_sem_proc, dr, Nat.min_def, ↓reduceIte]
  · simp -implicitDefEqProofs (maxSteps := 4000000) (disch := omega) only [go_sem, go_sem_proc, dr, Nat.min_def, ↓reduceIte]
theorem runs_sl {l : List Int} (h : Ri64 l) (hl : l.length ≤ 65535) : dw E 40 [.sl 1 (ints .i64 l)] [] = some (.nr 5 1 (ints .u8 (runsL l)), []) := by
  have hb := (runs_facts l.length (Nat.le_refl _) (by omega) h).2
  refine dw_in (fn := Try.f40) rfl body40 (by simp) ?_
  simp -implicitDefEqProofs (maxSteps := 4000000) (disch := omega) only [go_sem, go_sem_proc, dr, Nat.min_def, ↓reduceIte]
  refine runs_any (fun a : List Int × List Int => (⟨[(0, .sl 1 (ints .i64 a.1)), (3, .h 2097344)], [(2097344, some ⟨true, .row 5 1 (ints .u8 a.2)⟩)], 1⟩ : St)) (fun a => a.1.length) (l, []) (fun a => a.2 ++ runsL a.1 = runsL l ∧ a.1.length ≤ 65535 ∧ Ri64 a.1) ⟨rfl, hl, h⟩ ?_ ?_
  · simp -implicitDefEqProofs (maxSteps := 4000000) (disch := omega) only [go_sem, go_sem_proc, dr, Nat.min_def, ↓reduceIte, ints, List.map_nil]
  · rintro ⟨m, out⟩ ⟨he, hml, hmr⟩
    dsimp only at he hml hmr ⊢
    have hle := congrArg List.length he
    rw [List.length_append] at hle
    cases m with
    | nil =>
      rw [runsL_nil, List.append_nil] at he
      simp -implicitDefEqProofs (maxSteps := 4000000) (disch := omega) only [go_sem, go_sem_proc, dr, Nat.min_def, ↓reduceIte, List.length_nil, he]
    | cons x r =>
      obtain ⟨h1, h2⟩ := hmr.cons
      have hk := runLen_le x r
      rw [runsL_cons] at he
      have hZ := Zig_spec h1.1 h1.2
      have hz := zig_r h1
      have c1 : ((1 + runLen x r : Nat) : Int) < 18446744073709551616 := by simp only [List.length_cons] at hml; omega
      have hn1 := num_len10 (u := ((1 + runLen x r : Nat) : Int)) (by omega) c1
      have hN1 := Num_sl (zs := out) (u := ((1 + runLen x r : Nat) : Int)) (by omega) (by omega) c1
      have hN2 := Num_sl (zs := out ++ num ((1 + runLen x r : Nat) : Int)) (u := zig x) (by rw [List.length_append]; omega) hz.1 hz.2
      have hget : ∀ j, j < runLen x r → (x :: r)[j + 1]? = some x := fun j hj => by simpa using runLen_get hj
      have hend : ∀ y, r[runLen x r]? = some y → y ≠ x := fun y hy => runLen_end hy
      simp only [List.length_cons] at hml
      generalize hkk : runLen x r = k at *
      clear hb h hl hle hmr
      rw [show ((1 + k : Nat) : Int) = (k : Int) + 1 by omega] at hN1 hN2 he
      simp -implicitDefEqProofs (maxSteps := 4000000) (disch := omega) only [go_sem, go_sem_proc, dr, Nat.min_def, ↓reduceIte, List.length_cons]
      refine runs_for (fun i : Nat => (⟨[(0, .sl 1 (ints .i64 (x :: r))), (3, .h 2097344), (4, .int .i64 ((i : Int) + 1))], [(2097344, some ⟨true, .row 5 1 (ints .u8 out)⟩)], 1⟩ : St)) k ?_ ?_ ?_
      · simp -implicitDefEqProofs (maxSteps := 4000000) (disch := omega) only [go_sem, go_sem_proc, dr, Nat.min_def, ↓reduceIte]
      · intro i hi
        have hg := hget i hi
        have hj : ((i : Int) + 1).toNat = i + 1 := by omega
        clear hget hend hN1 hN2 hZ
        simp -implicitDefEqProofs (maxSteps := 4000000) (disch := omega) only [go_sem, go_sem_proc, dr, Nat.min_def, ↓reduceIte, List.length_cons, hg, hj, List.getElem?_cons_zero]
        ((repeat' split) <;> (change _ = true; kernel_rfl))
      · have hj : ((k : Int) + 1).toNat = k + 1 := by omega
        have hu : ((k : Int) + 1) % 18446744073709551616 = (k : Int) + 1 := by omega
        rcases hq : r[k]? with _ | y
        · have hkr : k = r.length := by
            have := List.getElem?_eq_none_iff.1 hq
            omega
          clear hget hend hq
          simp -implicitDefEqProofs (maxSteps := 4000000) (disch := omega) only [go_sem, go_sem_proc, dr, Nat.min_def, ↓reduceIte, List.length_cons, hj, hu, hN1, hZ, hN2, List.getElem?_cons_zero]
          exact ⟨by ((repeat' split) <;> (change _ = true; kernel_rfl)), by ((repeat' split) <;> (change _ = true; kernel_rfl)), (r.drop k, out ++ num ((k : Int) + 1) ++ num (zig x)), rfl, ⟨by rw [← he]; simp only [List.append_assoc], by simp only [List.length_drop]; omega, h2.sub fun z hz => List.mem_of_mem_drop hz⟩, by simp only [List.length_drop]; omega⟩
        · have hy := hend y hq
          have hkr : k < r.length := (List.getElem?_eq_some_iff.1 hq).1
          have hg : (x :: r)[k + 1]? = some y := by simpa using hq
          have hyx : (y = x) = False := eq_false hy
          clear hget hend hq hy
          simp -implicitDefEqProofs (maxSteps := 4000000) (disch := omega) only [go_sem, go_sem_proc, dr, Nat.min_def, ↓reduceIte, List.length_cons, hj, hu, hg, hyx, hN1, hZ, hN2, List.getElem?_cons_zero]
          exact ⟨by ((repeat' split) <;> (change _ = true; kernel_rfl)), by ((repeat' split) <;> (change _ = true; kernel_rfl)), (r.drop k, out ++ num ((k : Int) + 1) ++ num (zig x)), rfl, ⟨by rw [← he]; simp only [List.append_assoc], by simp only [List.length_drop]; omega, h2.sub fun z hz => List.mem_of_mem_drop hz⟩, by simp only [List.length_drop]; omega⟩
theorem runs_spec {X : PV} {l : List Int} (hX : IsI X l) (h : Ri64 l) (hl : l.length ≤ 65535) : dw E 40 [X] [] = some (.nr 5 1 (ints .u8 (runsL l)), []) := by
  rcases hX with rfl | ⟨rfl, rfl⟩
  · exact runs_sl h hl
  · rw [runsL_nil]; exact runs_nils
end Go.Proofs.Ytojaklgmojmjeaa.D
