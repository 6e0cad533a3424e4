/- Columns of bytes: columns that are the same; what the laws draw; what is handed in. -/
import Derived.Test.YtmaehmacngldbaaBcol13
import Derived.Test.YtmaehmacngldbaaDenO
namespace Go.Proofs.Ytmaehmacngldbaa.D
open Go Go.Den
set_option linter.unusedSimpArgs false
set_option linter.unusedVariables false
set_option maxRecDepth 20000
set_option maxHeartbeats 8000000
theorem awake5 : dw E 11 [] [] = some (.bool true, []) := dw_of (k := 300) (by kernel_rfl)
def R8L (L : List RB') : Prop := ∀ o ∈ L, R8 (bz o)
theorem SameRows_sl {a b : List RB'} (ra : R8L a) (rb : R8L b) (ha : a.length ≤ 1000000) (hb : b.length ≤ 1000000) : dw E 18 [.sl 1 (a.map brow), .sl 1 (b.map brow)] [] = some (.bool (decide (a.map bz = b.map bz)), []) := by
  have hga : ∀ {i : Nat} {o : RB'}, a[i]? = some o → (a.map brow)[i]? = some [bl o] := fun ho => by simp [ho, brow]
  have hgb : ∀ {i : Nat} {o : RB'}, b[i]? = some o → (b.map brow)[i]? = some [bl o] := fun ho => by simp [ho, brow]
  have hla : (a.map brow).length = a.length := List.length_map ..
  have hlb : (b.map brow).length = b.length := List.length_map ..
  generalize a.map brow = A at *
  generalize b.map brow = B at *
  refine dw_in (fn := Try.f18) rfl body18 (by simp) ?_
  obtain ⟨L, hL⟩ : ∃ L : Int, (a.length : Int) = L := ⟨_, rfl⟩
  obtain ⟨M, hM⟩ : ∃ M : Int, (b.length : Int) = M := ⟨_, rfl⟩
  by_cases hl : a.length = b.length
  · have hLM : L = M := by omega
    subst hLM
    simp -implicitDefEqProofs (maxSteps := 4000000) (disch := omega) only [go_sem, go_sem_proc, dr, Nat.min_def, ↓reduceIte, hla, hlb, hL, hM]
    refine runs_any (fun i : Nat => (⟨[(0, .sl 1 A), (1, .sl 1 B), (5, .int .i64 i)], [], 1⟩ : St)) (fun i => a.length - i) 0 (fun i => i ≤ a.length ∧ (a.take i).map bz = (b.take i).map bz) ⟨Nat.zero_le _, by simp⟩ ?_ ?_
    · simp -implicitDefEqProofs (maxSteps := 4000000) (disch := omega) only [go_sem, go_sem_proc, dr, Nat.min_def, ↓reduceIte]
    · rintro i ⟨hi, ht⟩
      by_cases hlt : i < a.length
      · obtain ⟨x, hx, hxm, h1⟩ := take_get hlt
        obtain ⟨y, hy, hym, h2⟩ := take_get (l := b) (i := i) (by omega)
        have hiL : (i : Int) < L := by omega
        have hgx := hga hx
        have hgy := hgb hy
        have hq := toU8_beq (ra x hxm) (rb y hym)
        by_cases hxy : bz x = bz y
        · rw [decide_eq_true hxy] at hq
          clear hga hgb ra rb
          have hnext : (a.take (i + 1)).map bz = (b.take (i + 1)).map bz := by rw [h1, h2, List.map_append, List.map_append, ht, List.map_cons, List.map_cons, hxy]
          clear ht h1 h2 hx hy hxy
          simp -implicitDefEqProofs (maxSteps := 4000000) (disch := omega) only [go_sem, go_sem_proc, dr, Nat.min_def, ↓reduceIte, hla, hlb, hL, hM, hgx, hgy, hq]
          exact ⟨by ((repeat' split) <;> (change _ = true; kernel_rfl)), i + 1, rfl, ⟨by omega, hnext⟩, by omega⟩
        · rw [decide_eq_false hxy] at hq
          have hab : a.map bz ≠ b.map bz := fun h => by
            have h3 := congrArg (fun m : List (List Int) => m[i]?) h
            simp only [List.getElem?_map, hx, hy, Option.map_some, Option.some.injEq] at h3
            exact hxy h3
          rw [decide_eq_false hab]
          clear hab hxy hga hgb ra rb ht h1 h2 hx hy
          simp -implicitDefEqProofs (maxSteps := 4000000) (disch := omega) only [go_sem, go_sem_proc, dr, Nat.min_def, ↓reduceIte, hla, hlb, hL, hM, hgx, hgy, hq]
          ((repeat' split) <;> (change _ = true; kernel_rfl))
      · have hia : i = a.length := by omega
        have hab : a.map bz = b.map bz := by
          subst hia
          rw [List.take_length, hl, List.take_length] at ht
          exact ht
        rw [decide_eq_true hab]
        have hLi : L = (i : Int) := by omega
        clear hab ht hga hgb ra rb
        simp -implicitDefEqProofs (maxSteps := 4000000) (disch := omega) only [go_sem, go_sem_proc, dr, Nat.min_def, ↓reduceIte, hla, hlb, hL, hLi]
  · have hab : a.map bz ≠ b.map bz := fun h => hl (len_of h)
    rw [decide_eq_false hab]
    have hLM : (L = M) = False := eq_false (by omega)
    clear hab hga hgb ra rb
    simp -implicitDefEqProofs (maxSteps := 4000000) (disch := omega) only [go_sem, go_sem_proc, dr, Nat.min_def, ↓reduceIte, hla, hlb, hL, hM, hLM]
theorem SameRows_nn : dw E 18 [.nils, .nils] [] = some (.bool true, []) := by
  refine dw_in (fn := Try.f18) rfl body18 (by simp) ?_
  simp -implicitDefEqProofs (maxSteps := 4000000) (disch := omega) only [go_sem, go_sem_proc, dr, Nat.min_def, ↓reduceIte]
  refine runs_for (fun i : Nat => (⟨[(0, .nils), (1, .nils), (5, .int .i64 i)], [], 1⟩ : St)) 0 ?_ (fun i h => absurd h (Nat.not_lt_zero i)) ?_
  · simp -implicitDefEqProofs (maxSteps := 4000000) (disch := omega) only [go_sem, go_sem_proc, dr, Nat.min_def, ↓reduceIte]
  · simp -implicitDefEqProofs (maxSteps := 4000000) (disch := omega) only [go_sem, go_sem_proc, dr, Nat.min_def, ↓reduceIte]
theorem SameRows_sn : dw E 18 [.sl 1 [], .nils] [] = some (.bool true, []) := by
  refine dw_in (fn := Try.f18) rfl body18 (by simp) ?_
  simp -implicitDefEqProofs (maxSteps := 4000000) (disch := omega) only [go_sem, go_sem_proc, dr, Nat.min_def, ↓reduceIte, List.length_nil]
  refine runs_for (fun i : Nat => (⟨[(0, .sl 1 []), (1, .nils), (5, .int .i64 i)], [], 1⟩ : St)) 0 ?_ (fun i h => absurd h (Nat.not_lt_zero i)) ?_
  · simp -implicitDefEqProofs (maxSteps := 4000000) (disch := omega) only [go_sem, go_sem_proc, dr, Nat.min_def, ↓reduceIte]
  · simp -implicitDefEqProofs (maxSteps := 4000000) (disch := omega) only [go_sem, go_sem_proc, dr, Nat.min_def, ↓reduceIte, List.length_nil]
theorem SameRows_ns : dw E 18 [.nils, .sl 1 []] [] = some (.bool true, []) := by
  refine dw_in (fn := Try.f18) rfl body18 (by simp) ?_
  simp -implicitDefEqProofs (maxSteps := 4000000) (disch := omega) only [go_sem, go_sem_proc, dr, Nat.min_def, ↓reduceIte, List.length_nil]
  refine runs_for (fun i : Nat => (⟨[(0, .nils), (1, .sl 1 []), (5, .int .i64 i)], [], 1⟩ : St)) 0 ?_ (fun i h => absurd h (Nat.not_lt_zero i)) ?_
  · simp -implicitDefEqProofs (maxSteps := 4000000) (disch := omega) only [go_sem, go_sem_proc, dr, Nat.min_def, ↓reduceIte]
  · simp -implicitDefEqProofs (maxSteps := 4000000) (disch := omega) only [go_sem, go_sem_proc, dr, Nat.min_def, ↓reduceIte, List.length_nil]
/-- rows that have the same bytes are the same -/
theorem SameRows_eq {X Y : PV} {a b : List RB'} (hX : IsR X a) (hY : IsR Y b) (ra : R8L a) (rb : R8L b) (ha : a.length ≤ 1000000) (he : a.map bz = b.map bz) : dw E 18 [X, Y] [] = some (.bool true, []) := by
  have hl := len_of he
  have key := SameRows_sl ra rb ha (by omega)
  rw [decide_eq_true he] at key
  rcases hX with rfl | ⟨rfl, rfl⟩
  · rcases hY with rfl | ⟨rfl, rfl⟩
    · exact key
    · have : a = [] := List.length_eq_zero_iff.1 hl
      subst this
      exact SameRows_sn
  · rcases hY with rfl | ⟨rfl, rfl⟩
    · have : b = [] := List.length_eq_zero_iff.1 hl.symm
      subst this
      exact SameRows_ns
    · exact SameRows_nn
/-! ### what the laws draw -/
def colV (how : Int) (rows : List RB') (i : Nat) (n : Int) : RB' :=
  if how % 4 = 0 then some [97 + (i : Int) / 7] else if how % 4 = 1 ∧ 0 < rows.length then rows.getD (n % 256 % (rows.length : Int)).toNat none else some [97 + n % 4, 97 + n / 4 % 2]
def colB (how : Int) (rows : List RB') (l : List Int) (m : Nat) : List RB' := (List.range m).map fun i => colV how rows i (l.getD i 0)
theorem colB_succ (how : Int) (rows : List RB') (l : List Int) {m : Nat} {n : Int} (h : l[m]? = some n) : colB how rows l (m + 1) = colB how rows l m ++ [colV how rows m n] := by
  simp [colB, List.range_succ, h]
theorem colB_len (how : Int) (rows : List RB') (l : List Int) (m : Nat) : (colB how rows l m).length = m := by simp [colB]
def Raw (L : List RB') : Prop := ∀ o ∈ L, R8 (bz o) ∧ (bz o).length ≤ 9223372036854775807
theorem colB_raw (how : Int) {rows : List RB'} (hr : Raw rows) (l : List Int) {m : Nat} (hm : m ≤ 60) : Raw (colB how rows l m) := by
  intro o ho
  obtain ⟨i, hi, rfl⟩ := List.mem_map.1 ho
  have hi := List.mem_range.1 hi
  unfold colV
  generalize l.getD i 0 = n
  split
  · exact ⟨fun z hz => by simp [bz] at hz; omega, by simp [bz]⟩
  split
  · rename_i h
    rw [List.getD_eq_getElem?_getD]
    cases hq : rows[(n % 256 % (rows.length : Int)).toNat]? with
    | none => exact ⟨fun z hz => by simp [bz] at hz, by simp [bz]⟩
    | some y => exact hr y (List.mem_of_getElem? hq)
  · exact ⟨fun z hz => by simp [bz] at hz; rcases hz with rfl | rfl <;> omega, by simp [bz]⟩
theorem Column_spec {rows : List RB'} {l : List Int} {how : Int} (hl : rows.length ≤ 9223372036854775807) : dw E 12 [.sl 1 (rows.map brow), .sl 1 (ints .i64 l), .int .i64 how] [] = some (.nr 28 1 ((colB how rows l (min l.length 60)).map brow), []) := by
  obtain ⟨m, hm, hm1, hm2, hm3⟩ : ∃ m : Nat, min l.length 60 = m ∧ m ≤ 60 ∧ m ≤ l.length ∧ (m = l.length ∨ m = 60) := ⟨_, rfl, by omega, by omega, by omega⟩
  rw [hm]
  have hgr : ∀ {i : Nat} {o : RB'}, rows[i]? = some o → (rows.map brow)[i]? = some [bl o] := fun ho => by simp [ho, brow]
  have hlr : (rows.map brow).length = rows.length := List.length_map ..
  generalize rows.map brow = R at *
  refine dw_in (fn := Try.f12) rfl body12 (by simp) ?_
  simp -implicitDefEqProofs (maxSteps := 4000000) (disch := omega) only [go_sem, go_sem_proc, dr, Nat.min_def, ↓reduceIte]
  refine runs_for (fun i : Nat => (⟨[(0, .sl 1 R), (1, .sl 1 (ints .i64 l)), (2, .int .i64 how), (7, .h 2097600), (8, .int .i64 i)], [(2097600, some ⟨true, .row 28 1 ((colB how rows l i).map brow)⟩)], 1⟩ : St)) m ?_ ?_ ?_
  · simp -implicitDefEqProofs (maxSteps := 4000000) (disch := omega) only [go_sem, go_sem_proc, dr, Nat.min_def, ↓reduceIte]
    rfl
  · intro i hi
    obtain ⟨x, hx, _, _⟩ := take_get (l := l) (i := i) (by omega)
    have hlen : ((colB how rows l i).map brow).length = i := by rw [List.length_map, colB_len]
    rw [colB_succ how rows l hx, List.map_append, List.map_cons, List.map_nil]
    generalize (colB how rows l i).map brow = out at *
    have h1 : i < l.length := by omega
    have h2 : i < 60 := by omega
    have h3 : out.length ≤ 60 := by omega
    clear hi hm1 hm2 hm3 hm
    have third : ∀ (k : Int), how % 4 = k → k ≠ 0 → ¬ (k = 1 ∧ 0 < rows.length) → colV how rows i x = some [97 + x % 4, 97 + x / 4 % 2] := fun k hk h0 h1 => by
      unfold colV
      rw [hk, if_neg h0, if_neg h1]
    by_cases q0 : how % 4 = 0
    · have e : colV how rows i x = some [97 + (i : Int) / 7] := by unfold colV; rw [if_pos q0]
      rw [e]
      clear third hgr e
      simp -implicitDefEqProofs (maxSteps := 4000000) (disch := omega) only [go_sem, go_sem_proc, dr, Nat.min_def, ↓reduceIte, hx, q0, hlr, hlen]
      exact ⟨by ((repeat' split) <;> (change _ = true; kernel_rfl)), rfl⟩
    by_cases q1 : how % 4 = 1
    · by_cases hr0 : 0 < rows.length
      · obtain ⟨I, hI, hIl⟩ : ∃ I : Nat, x % 256 % (rows.length : Int) = (I : Int) ∧ I < rows.length := by
          have h1 := Int.emod_nonneg (x % 256) (b := (rows.length : Int)) (by omega)
          have h2 := Int.emod_lt_of_pos (x % 256) (b := (rows.length : Int)) (by omega)
          exact ⟨(x % 256 % (rows.length : Int)).toNat, by omega, by omega⟩
        obtain ⟨y, hy, _, _⟩ := take_get (l := rows) (i := I) hIl
        have e : colV how rows i x = y := by
          unfold colV
          rw [if_neg q0, if_pos ⟨q1, hr0⟩, hI, Int.toNat_natCast]
          simp [List.getD, hy]
        rw [e]
        have hgy := hgr hy
        clear third hgr e hy
        simp -implicitDefEqProofs (maxSteps := 4000000) (disch := omega) only [go_sem, go_sem_proc, dr, Nat.min_def, ↓reduceIte, hx, q1, hlr, hlen, hI, hgy]
        exact ⟨by ((repeat' split) <;> (change _ = true; kernel_rfl)), rfl⟩
      · rw [third 1 q1 (by decide) (fun h => hr0 h.2)]
        have hr1 : rows.length = 0 := by omega
        clear third hgr
        simp -implicitDefEqProofs (maxSteps := 4000000) (disch := omega) only [go_sem, go_sem_proc, dr, Nat.min_def, ↓reduceIte, hx, q1, hlr, hlen, hr1]
        exact ⟨by ((repeat' split) <;> (change _ = true; kernel_rfl)), rfl⟩
    · rw [third _ rfl q0 (fun h => q1 h.1)]
      have e0 := eq_false q0
      have e1 := eq_false q1
      clear third hgr
      simp -implicitDefEqProofs (maxSteps := 4000000) (disch := omega) only [go_sem, go_sem_proc, dr, Nat.min_def, ↓reduceIte, hx, e0, e1, hlr, hlen]
      exact ⟨by ((repeat' split) <;> (change _ = true; kernel_rfl)), rfl⟩
  · rcases hm3 with e | e
    · simp -implicitDefEqProofs (maxSteps := 4000000) (disch := omega) only [go_sem, go_sem_proc, dr, Nat.min_def, ↓reduceIte]
    · subst e
      by_cases hl : 60 < l.length
      · simp -implicitDefEqProofs (maxSteps := 4000000) (disch := omega) only [go_sem, go_sem_proc, dr, Nat.min_def, ↓reduceIte]
      · simp -implicitDefEqProofs (maxSteps := 4000000) (disch := omega) only [go_sem, go_sem_proc, dr, Nat.min_def, ↓reduceIte]
theorem shp_u8 {n : Nat} {ps : List PV} (h : Shp Try.prog n 5 ps) : ∃ z, ps = [.int .u8 z] ∧ 0 ≤ z ∧ z < 256 := by
  cases n with
  | zero => cases h
  | succ n =>
    unfold Shp at h
    rw [Try.underlying5] at h
    obtain ⟨z, h, hw⟩ := h
    exact ⟨z, h, wf_u8 hw⟩
theorem cel5 : Try.prog.cellsOf 5 = 1 := by kernel_rfl
theorem cel28 : Try.prog.cellsOf 28 = 1 := by kernel_rfl
theorem shp_bytes {n : Nat} {ps : List PV} (h : Shp Try.prog n 28 ps) : ∃ o : RB', ps = brow o ∧ R8 (bz o) ∧ (bz o).length ≤ 9223372036854775807 := by
  cases n with
  | zero => cases h
  | succ n =>
    unfold Shp at h
    rw [Try.underlying28] at h
    obtain ⟨xs, hx, hl, h⟩ := h
    rw [cel5] at hx
    have : ∀ xs : List (List PV), (∀ x ∈ xs, Shp Try.prog n 5 x) → ∃ zs : List Int, xs = ints .u8 zs ∧ R8 zs := by
      intro xs
      induction xs with
      | nil => intro _; exact ⟨[], rfl, fun z hz => by simp at hz⟩
      | cons a r ih =>
        intro h
        obtain ⟨x, rfl, h0, h1⟩ := shp_u8 (h _ List.mem_cons_self)
        obtain ⟨L, rfl, hr⟩ := ih fun y hy => h y (List.mem_cons_of_mem _ hy)
        refine ⟨x :: L, rfl, fun z hz => ?_⟩
        rcases List.mem_cons.1 hz with rfl | hz
        · exact ⟨h0, h1⟩
        · exact hr z hz
    obtain ⟨zs, rfl, hr⟩ := this xs h
    refine ⟨some zs, hx, hr, ?_⟩
    rw [ints, List.length_map] at hl
    exact hl
theorem shp_rows {n : Nat} {x : PV} (h : Shp Try.prog n 25 [x]) : ∃ L : List RB', x = .sl 1 (L.map brow) ∧ Raw L ∧ L.length ≤ 9223372036854775807 := by
  cases n with
  | zero => cases h
  | succ n =>
    unfold Shp at h
    rw [Try.underlying25] at h
    obtain ⟨xs, hx, hl, h⟩ := h
    rw [cel28] at hx
    simp only [List.cons.injEq, and_true] at hx
    subst hx
    have : ∀ xs : List (List PV), (∀ x ∈ xs, Shp Try.prog n 28 x) → ∃ L : List RB', xs = L.map brow ∧ Raw L := by
      intro xs
      induction xs with
      | nil => intro _; exact ⟨[], rfl, fun z hz => by simp at hz⟩
      | cons a r ih =>
        intro h
        obtain ⟨x, rfl, hx⟩ := shp_bytes (h _ List.mem_cons_self)
        obtain ⟨L, rfl, hL⟩ := ih fun y hy => h y (List.mem_cons_of_mem _ hy)
        refine ⟨x :: L, rfl, fun z hz => ?_⟩
        rcases List.mem_cons.1 hz with rfl | hz
        · exact hx
        · exact hL z hz
    obtain ⟨L, rfl, hL⟩ := this xs h
    rw [List.length_map] at hl
    exact ⟨L, rfl, hL, hl⟩
end Go.Proofs.Ytmaehmacngldbaa.D
