/- Columns of bytes: lists of the unlike; a column told. -/
import Derived.Test.YtmaehmacngldbaaBcol5
namespace Go.Proofs.Ytmaehmacngldbaa.D
open Go Go.Den
set_option linter.unusedSimpArgs false
set_option linter.unusedVariables false
set_option maxRecDepth 20000
set_option maxHeartbeats 8000000
theorem wide_spec {n : Nat} (hn : n ≤ 65536) : dw E 38 [.int .i64 n] [] = some (.int .i64 (width (n - 1)), []) := by
  have hW := Width_spec (u := n - 1) (by omega)
  refine dw_in (fn := Try.f38) rfl body38 (by simp) ?_
  by_cases h : n = 0
  · subst h
    have hW0 : dw E 61 [.int .u64 0] [] = some (.int .i64 (width (0 - 1)), []) := hW
    simp -implicitDefEqProofs (maxSteps := 4000000) (disch := omega) only [go_sem, go_sem_proc, dr, Nat.min_def, ↓reduceIte, hW0]
  · have e : ((n - 1 : Nat) : Int) = (n : Int) - 1 := by omega
    rw [e] at hW
    simp -implicitDefEqProofs (maxSteps := 4000000) (disch := omega) only [go_sem, go_sem_proc, dr, Nat.min_def, ↓reduceIte, hW]
theorem all_slOne (L : List RB') : (L.map brow).all slOne = true := by
  rw [List.all_eq_true]
  intro x hx
  obtain ⟨o, _, rfl⟩ := List.mem_map.1 hx
  cases o <;> rfl
theorem rowB_bl {o : RB'} (h : R8 (bz o)) : rowB (bl o) = some (bz o) := by
  cases o with
  | none => rfl
  | some b => exact u8L_ints h
theorem rowsB_brow : ∀ {L : List RB'}, B64 L → rowsB (L.map brow) = some (L.map bz)
  | [], _ => rfl
  | o :: r, h => by
    have h1 := rowB_bl (h o (by simp)).1
    have h2 := rowsB_brow (L := r) (h.sub fun z hz => by simp [hz])
    simp only [List.map_cons, brow, rowsB, h1, h2]
theorem sortBG_rows (e : TypeId) {L : List RB'} (h : B64 L) (hl : L.length ≤ 65535) : sortBG e 1 (L.map brow) = some (((sortL (L.map bz)).map some).map brow) := by
  have h1 : Nat.ble (L.map brow).length lim = true := Nat.ble_eq_true_of_le (by rw [List.length_map]; unfold lim; omega)
  simp only [sortBG, h1, rowsB_brow h, Option.map_some, beq_self_eq_true, Bool.and_self, if_true, List.map_map]
  rfl
theorem B64_some {u : List (List Int)} (h : ∀ x ∈ u, R8 x ∧ x.length ≤ 64) : B64 (u.map some) := fun o ho => by
  obtain ⟨x, hx, rfl⟩ := List.mem_map.1 ho
  exact h x hx
theorem compactBG_rows (e : TypeId) {L : List RB'} (h : B64 L) (hl : L.length ≤ 65535) : compactBG e 1 (((sortL (L.map bz)).map some).map brow) = some (((uniqB L).map some).map brow) := by
  have h0 : B64 ((sortL (L.map bz)).map some) := B64_some fun x hx => by
    obtain ⟨o, ho, rfl⟩ := List.mem_map.1 ((sortL_perm _).mem_iff.1 hx)
    exact h o ho
  have h1 : Nat.ble (((sortL (L.map bz)).map some).map brow).length lim = true := Nat.ble_eq_true_of_le (by rw [List.length_map, List.length_map, (sortL_perm _).length_eq, List.length_map]; unfold lim; omega)
  have e1 : ((sortL (L.map bz)).map some).map bz = sortL (L.map bz) := by rw [List.map_map]; exact List.map_id _
  unfold compactBG
  rw [if_pos (by rw [h1]; rfl), rowsB_brow h0, e1, List.map_map]
  rfl
theorem Sorted_sl {L : List RB'} (h : B64 L) (hl : L.length ≤ 65535) : dw E 65 [.fn 76 [.pc [.sl 1 (L.map brow)]], .fn 67 []] [] = some (.nr 28 1 (((sortL (L.map bz)).map some).map brow), []) := by
  have hC := collectSF_rows 76 28 (L.map brow) (all_slOne L) (by rw [List.length_map]; omega)
  have hS := sortBG_rows 28 h hl
  refine dw_in (fn := Try.f65) rfl body65 (by simp) ?_
  simp -implicitDefEqProofs (maxSteps := 4000000) (disch := omega) only [go_sem, go_sem_proc, dr, Nat.min_def, ↓reduceIte, hC, hS]
theorem cb_r (a b : List UInt8) : Lib.compareBytes a b = -1 ∨ Lib.compareBytes a b = 0 ∨ Lib.compareBytes a b = 1 := by
  induction a generalizing b with
  | nil => cases b <;> simp [Lib.compareBytes]
  | cons x xs ih =>
    cases b with
    | nil => simp [Lib.compareBytes]
    | cons y ys =>
      rw [Lib.compareBytes]
      split
      · simp
      · split
        · simp
        · exact ih ys
theorem cb_zero : ∀ {a b : List UInt8}, Lib.compareBytes a b = 0 → a = b
  | [], [], _ => rfl
  | [], _ :: _, h => by simp [Lib.compareBytes] at h
  | _ :: _, [], h => by simp [Lib.compareBytes] at h
  | x :: xs, y :: ys, h => by
    rw [Lib.compareBytes] at h
    split at h
    · cases h
    · rename_i h1
      split at h
      · cases h
      · rename_i h2
        rw [cb_zero h, show x = y from UInt8.toNat.inj (by rw [UInt8.lt_iff_toNat_lt] at h1 h2; omega)]
theorem Cmp_F {a b : RB'} (ha : R8 (bz a)) (hb : R8 (bz b)) : ∃ z : Int, compareF [bl a, bl b] = some (.int .i64 z) ∧ (z < 0 ↔ ltB (bz a) (bz b) = true) ∧ -1 ≤ z ∧ z ≤ 1 := by
  refine ⟨Lib.compareBytes ((bz a).map toU8) ((bz b).map toU8), by simp only [compareF, bytesP_bl], cmp_ltB ha hb, ?_⟩
  rcases cb_r ((bz a).map toU8) ((bz b).map toU8) with h | h | h <;> rw [h] <;> decide
theorem BS_sl {u : List (List Int)} {x : RB'} (hs : u.Pairwise fun x y => ltB x y = true) (hu : ∀ y ∈ u, R8 y) (hx : R8 (bz x)) (hl : u.length ≤ 65535) :
    ∃ b, dw E 68 [.sl 1 ((u.map some).map brow), bl x, .fn 67 []] [] = some (.tup [.int .i64 (lbB u (bz x)), .bool b], []) := by
  have hle := lbB_le u (bz x)
  have hlt : ∀ {h : Nat} {y : List Int}, u[h]? = some y → (ltB y (bz x) = true ↔ h < lbB u (bz x)) := fun hy => lbB_lt hs hy
  have hg : ∀ {h : Nat} {y : List Int}, u[h]? = some y → ((u.map some).map brow)[h]? = some [bl (some y)] := fun hy => by simp [hy, brow]
  have hML : ((u.map some).map brow).length = u.length := by simp
  generalize (u.map some).map brow = M at *
  generalize hk : lbB u (bz x) = k at *
  obtain ⟨C, hC⟩ : ∃ C : Int, (u.length : Int) = C := ⟨_, rfl⟩
  have hMC : (M.length : Int) = C := by omega
  have hCr : 0 ≤ C ∧ C ≤ 65535 := by omega
  obtain ⟨b, hb⟩ : ∃ b, (∀ y, u[k]? = some y → ∀ z : Int, compareF [bl (some y), bl x] = some (.int .i64 z) → b = decide (z = 0)) ∧ (u[k]? = none → b = false) := by
    cases hq : u[k]? with
    | none => exact ⟨false, by simp, fun _ => rfl⟩
    | some y =>
      obtain ⟨z, hz, _⟩ := Cmp_F (a := some y) (b := x) (hu y (List.mem_of_getElem? hq)) hx
      refine ⟨decide (z = 0), fun y' hy' z' hz' => ?_, fun h => by cases h⟩
      injection hy' with hy'
      subst hy'
      rw [hz] at hz'
      injection hz' with hz'
      injection hz' with _ hz'
      rw [hz']
  refine ⟨b, ?_⟩
  refine dw_in (fn := Try.f68) rfl body68 (by simp) ?_
  simp -implicitDefEqProofs (maxSteps := 4000000) (disch := omega) only [go_sem, go_sem_proc, dr, Nat.min_def, ↓reduceIte, hMC]
  refine runs_any (fun a : Nat × Nat => (⟨[(0, .sl 1 M), (1, bl x), (2, .fn 67 []), (8, .int .i64 C), (9, .int .i64 a.1), (10, .int .i64 a.2)], [], 1⟩ : St)) (fun a => a.2 - a.1) (0, u.length) (fun a => a.1 ≤ k ∧ k ≤ a.2 ∧ a.2 ≤ u.length) ⟨Nat.zero_le _, hle, Nat.le_refl _⟩ ?_ ?_
  · simp -implicitDefEqProofs (maxSteps := 4000000) (disch := omega) only [go_sem, go_sem_proc, dr, Nat.min_def, ↓reduceIte, hC]
  · rintro ⟨i, j⟩ ⟨h1, h2, h3⟩
    dsimp only at h1 h2 h3 ⊢
    by_cases hij : i < j
    · obtain ⟨h, hh⟩ : ∃ h, (i + j) / 2 = h := ⟨_, rfl⟩
      have e : ((i : Int) + (j : Int)) / 2 = (h : Int) := by omega
      obtain ⟨y, hy, hym, _⟩ := take_get (l := u) (i := h) (by omega)
      obtain ⟨z, hz, hzl, hz1, hz2⟩ := Cmp_F (a := some y) (b := x) (hu y hym) hx
      have hiff := hlt hy
      have hgy := hg hy
      have hC2 : (h : Int) < C := by omega
      by_cases hc : z < 0
      · have hc' := hiff.1 (hzl.1 hc)
        clear hlt hb hiff hs hk hC hzl hg hu hx hym
        simp -implicitDefEqProofs (maxSteps := 4000000) (disch := omega) only [go_sem, go_sem_proc, dr, Nat.min_def, ↓reduceIte, e, hgy, hz, hMC]
        exact ⟨(h + 1, j), rfl, ⟨hc', h2, h3⟩, by show j - (h + 1) < j - i; omega⟩
      · have hc' : k ≤ h := by
          have h0 : ¬ h < k := fun h0 => hc (hzl.2 (hiff.2 h0))
          omega
        clear hlt hb hiff hs hk hC hzl hg hu hx hym
        simp -implicitDefEqProofs (maxSteps := 4000000) (disch := omega) only [go_sem, go_sem_proc, dr, Nat.min_def, ↓reduceIte, e, hgy, hz, hMC]
        exact ⟨(i, h), rfl, ⟨h1, hc', by omega⟩, by show h - i < j - i; omega⟩
    · have hi : i = k := by omega
      have hj : j = k := by omega
      subst hi; subst hj
      cases hq : u[j]? with
      | none =>
        have hb := hb.2 hq
        have : u.length ≤ j := List.getElem?_eq_none_iff.1 hq
        have hC1 : C ≤ j := by omega
        subst hb
        clear hlt hs hk hC hle h3 hg hu
        simp -implicitDefEqProofs (maxSteps := 4000000) (disch := omega) only [go_sem, go_sem_proc, dr, Nat.min_def, ↓reduceIte, hMC]
      | some y =>
        obtain ⟨z, hz, hzl, hz1, hz2⟩ := Cmp_F (a := some y) (b := x) (hu y (List.mem_of_getElem? hq)) hx
        have hb := hb.1 y hq z hz
        have hgy := hg hq
        have : j < u.length := (List.getElem?_eq_some_iff.1 hq).1
        have hC1 : (j : Int) < C := by omega
        subst hb
        clear hlt hs hk hC hle h3 hg hu hzl
        simp -implicitDefEqProofs (maxSteps := 4000000) (disch := omega) only [go_sem, go_sem_proc, dr, Nat.min_def, ↓reduceIte, hgy, hz, hMC]
theorem toldO_bz {o q : RB'} (h : bz o = bz q) : toldO false o = toldO false q := by simp only [toldO, Bool.false_eq_true, if_false, h]
theorem toldL_bz {L M : List RB'} (h : L.map bz = M.map bz) : toldL false L = toldL false M := by
  have e : ∀ L : List RB', toldL false L = (L.map bz).flatMap fun x => num (x.length : Int) ++ x := fun L => by
    unfold toldL
    rw [List.flatMap_map]
    rfl
  rw [e, e, h]
theorem dict_eq (L : List RB') : dictO false L = num ((uniqB L).length : Int) ++ toldL false ((uniqB L).map some) ++ packL (width ((uniqB L).length - 1)) (L.map fun o => (lbB (uniqB L) (bz o) : Int)) := by
  have e1 : toldL false ((uniqB L).map some) = toldL false (unlikeO L) := toldL_bz (by rw [List.map_map, uniqB_eq]; exact List.map_id _)
  have e2 : (L.map fun o => (lbB (uniqB L) (bz o) : Int)) = idxsO L := List.map_congr_left fun o ho => by rw [lbB_idx ⟨o, ho, rfl⟩]
  rw [e1, e2, uniqB_len]
  rfl
theorem valuesB_sl (g : FuncId) (xs : List (List PV)) : valuesF g [.sl 1 xs] = some (.fn g [.pc [.sl 1 xs]]) := rfl
theorem dict_sl {L : List RB'} (h : B64 L) (hl : L.length ≤ 65535) : dw E 42 [.sl 1 (L.map brow)] [] = some (.nr 5 1 (ints .u8 (dictO false L)), []) := by
  have hS := Sorted_sl (L := L) h hl
  have hC := compactBG_rows 28 h hl
  have hul := uniqB_len L
  have hul2 := unlikeO_len L
  have hu : ∀ y ∈ uniqB L, R8 y ∧ y.length ≤ 64 := fun y hy => by
    obtain ⟨o, ho, rfl⟩ := uniqB_mem.1 hy
    exact h o ho
  have hur := B64_some hu
  have hus := uniqB_sorted L
  have hV := valuesB_sl 76 (L.map brow)
  have hN0 := Num_nils (u := ((uniqB L).length : Int)) (by omega) (by omega)
  have hn0 := num_len10 (u := ((uniqB L).length : Int)) (by omega) (by omega)
  rw [dict_eq]
  generalize uniqB L = u at *
  have hzl := toldLB_len hur
  rw [List.length_map] at hzl
  obtain ⟨C, hCC⟩ : ∃ C : Int, (u.length : Int) = C := ⟨_, rfl⟩
  obtain ⟨D, hD⟩ : ∃ D : Int, (L.length : Int) = D := ⟨_, rfl⟩
  have hC1 : 0 ≤ C ∧ C ≤ 65535 := by omega
  have hD1 : 0 ≤ D ∧ D ≤ 65535 := by omega
  rw [hCC] at hN0 hn0 ⊢
  have hMl : ((u.map some).map brow).length = u.length := by simp
  have hMg : ∀ {i : Nat} {y : List Int}, u[i]? = some y → ((u.map some).map brow)[i]? = some [bl (some y)] := fun hy => by simp [hy, brow]
  have hBS := fun (x : RB') (hx : R8 (bz x)) => BS_sl (u := u) (x := x) hus (fun y hy => (hu y hy).1) hx (by omega)
  generalize hM : (u.map some).map brow = M at *
  refine dw_in (fn := Try.f42) rfl body42 (by simp) ?_
  simp -implicitDefEqProofs (maxSteps := 4000000) (disch := omega) only [go_sem, go_sem_proc, dr, Nat.min_def, ↓reduceIte, hCC, hV, hS, hC, hN0, List.length_map, hMl]
  refine runs_for (fun i : Nat => (⟨[(0, .sl 1 (L.map brow)), (3, .sl 1 M), (4, .h 2097408), (20, .sl 1 M), (21, .int .i64 C), (22, .int .i64 i)], [(2097408, some ⟨true, .row 5 1 (ints .u8 (num C ++ toldL false ((u.take i).map some)))⟩)], 1⟩ : St)) u.length ?_ ?_ ?_
  · simp -implicitDefEqProofs (maxSteps := 4000000) (disch := omega) only [go_sem, go_sem_proc, dr, Nat.min_def, ↓reduceIte, List.take_zero, List.append_nil, List.map_nil]
    rw [show toldL false [] = [] from rfl, List.append_nil]
  · intro i hi
    obtain ⟨x, hx, hm, ht⟩ := take_get hi
    have hr := hu x hm
    have hlen := toldLB_len (L := (u.take i).map some) (B64_some fun y hy => hu y (List.mem_of_mem_take hy))
    simp only [List.length_take, List.length_map] at hlen
    have hN := Bytes_spec (o := some (num C ++ toldL false ((u.take i).map some))) (q := some x) (by show (num C ++ toldL false ((u.take i).map some)).length ≤ _; rw [List.length_append]; omega) (by show x.length ≤ _; omega)
    have hiC : (i : Int) < C := by omega
    have hgx := hMg hx
    have e : toldL false ((u.take (i + 1)).map some) = toldL false ((u.take i).map some) ++ (num x.length ++ x) := by rw [ht, List.map_append, List.map_cons, List.map_nil, toldL_snoc]; rfl
    change dw E 62 [.sl 1 (ints .u8 (num C ++ toldL false ((u.take i).map some))), bl (some x)] [] = some (.nr 5 1 (ints .u8 (num C ++ toldL false ((u.take i).map some) ++ num x.length ++ x)), []) at hN
    rw [e]
    clear hlen h hur hus hS hV hC hN0 hzl hul hul2 hn0 hi hMg hBS hu ht e
    simp -implicitDefEqProofs (maxSteps := 4000000) (disch := omega) only [go_sem, go_sem_proc, dr, Nat.min_def, ↓reduceIte, hgx, hN, hMl, List.append_assoc]
  · rw [List.take_length]
    generalize hB : num C ++ toldL false (u.map some) = B
    have hBl : B.length ≤ 7000000 := by rw [← hB, List.length_append]; omega
    clear hS hV hC hN0 hzl hn0 hur hB hMg
    simp -implicitDefEqProofs (maxSteps := 4000000) (disch := omega) only [go_sem, go_sem_proc, dr, Nat.min_def, ↓reduceIte, hCC, hD, List.length_map]
    refine runs_for (fun i : Nat => (⟨[(3, .sl 1 M), (4, .h 2097408), (7, .h 2097600), (30, .sl 1 (L.map brow)), (31, .int .i64 D), (32, .int .i64 i)], [(2097408, some ⟨true, .row 5 1 (ints .u8 B)⟩), (2097600, some ⟨true, .row 58 1 (ints .u64 ((L.take i).map fun o => (lbB u (bz o) : Int)))⟩)], 1⟩ : St)) L.length ?_ ?_ ?_
    · simp -implicitDefEqProofs (maxSteps := 4000000) (disch := omega) only [go_sem, go_sem_proc, dr, Nat.min_def, ↓reduceIte, List.take_zero, List.map_nil]
      rfl
    · intro i hi
      obtain ⟨o, ho, hm, ht⟩ := take_get hi
      obtain ⟨b, hb⟩ := hBS o (h o hm).1
      have hlb := lbB_le u (bz o)
      have hiD : (i : Int) < D := by omega
      have hlt : (L.take i).length ≤ 65535 := by simp; omega
      have hk : ((lbB u (bz o) : Nat) : Int) ≤ 65535 := by omega
      have hk0 : 0 ≤ ((lbB u (bz o) : Nat) : Int) := by omega
      generalize hL : ((lbB u (bz o) : Nat) : Int) = W at hb hk hk0
      have hgo : (L.map brow)[i]? = some [bl o] := by simp [ho, brow]
      clear h hul hul2 hus hi hBS hu
      simp -implicitDefEqProofs (maxSteps := 4000000) (disch := omega) only [go_sem, go_sem_proc, dr, Nat.min_def, ↓reduceIte, hgo, hb, List.length_map]
      rw [ht, List.map_append, List.map_cons, List.map_nil, hL]
    · rw [List.take_length]
      have hW := wide_spec (n := u.length) (by omega)
      have hwl : width (u.length - 1) ≤ 64 := width_le (by omega)
      have h64 : R64 (L.map fun o => (lbB u (bz o) : Int)) := fun z hz => by
        obtain ⟨o, ho, rfl⟩ := List.mem_map.1 hz
        have := lbB_le u (bz o)
        omega
      have hP := Pack_spec (n := width (u.length - 1)) (l := L.map fun o => (lbB u (bz o) : Int)) (by simpa using (by omega : L.length ≤ 100000)) h64
      rw [heldN_nat hwl] at hP
      rw [hCC] at hW
      have hpl := packL_length (width (u.length - 1)) (L.map fun o => (lbB u (bz o) : Int))
      rw [List.length_map] at hpl
      have hpm : width (u.length - 1) * L.length ≤ 64 * 65535 := Nat.mul_le_mul hwl hl
      have hg : B.length + (width (u.length - 1) * L.length + 7) / 8 ≤ 9000000 := by omega
      generalize width (u.length - 1) = wd at hW hP hpl hpm hg ⊢
      clear h hul hul2 hus hpm h64 hBS hu
      simp -implicitDefEqProofs (maxSteps := 4000000) (disch := omega) only [go_sem, go_sem_proc, dr, Nat.min_def, ↓reduceIte, hCC, hMl, hW, hP, hpl]
theorem dict_nils : dw E 42 [.nils] [] = some (.nr 5 1 (ints .u8 (dictO false [])), []) := by
  have e : dictO false [] = [0] := by
    show num 0 ++ toldL false [] ++ packL (width 0) [] = [0]
    rw [num_lt (by decide) (by decide)]
    rfl
  rw [e]
  exact dw_of (k := 60) (by kernel_rfl)
theorem dict_spec {X : PV} {L : List RB'} (hX : IsR X L) (h : B64 L) (hl : L.length ≤ 65535) : dw E 42 [X] [] = some (.nr 5 1 (ints .u8 (dictO false L)), []) := by
  rcases hX with rfl | ⟨rfl, rfl⟩
  · exact dict_sl h hl
  · exact dict_nils
theorem body_spec {X : PV} {k : Int} {L : List RB'} (hX : IsR X L) (h : B64 L) (hl : L.length ≤ 65535) : dw E 29 [.int .i64 k, X] [] = some (.tup (match refBody false k L with | some b => [.nr 5 1 (ints .u8 b), .bool true] | none => [.nils, .bool false]), []) := by
  have h1 := plain_spec hX h hl
  have h2 := runs_spec hX h hl
  have h4 := dict_spec hX h hl
  by_cases k1 : k = 1
  · subst k1
    rcases hX with rfl | ⟨rfl, rfl⟩ <;> (refine dw_in (fn := Try.f29) rfl body29 (by simp) ?_) <;> simp -implicitDefEqProofs (maxSteps := 4000000) (disch := omega) only [go_sem, go_sem_proc, dr, Nat.min_def, ↓reduceIte, h1] <;> simp [refBody]
  by_cases k2 : k = 2
  · subst k2
    rcases hX with rfl | ⟨rfl, rfl⟩ <;> (refine dw_in (fn := Try.f29) rfl body29 (by simp) ?_) <;> simp -implicitDefEqProofs (maxSteps := 4000000) (disch := omega) only [go_sem, go_sem_proc, dr, Nat.min_def, ↓reduceIte, h2] <;> simp [refBody]
  by_cases k4 : k = 4
  · subst k4
    rcases hX with rfl | ⟨rfl, rfl⟩ <;> (refine dw_in (fn := Try.f29) rfl body29 (by simp) ?_) <;> simp -implicitDefEqProofs (maxSteps := 4000000) (disch := omega) only [go_sem, go_sem_proc, dr, Nat.min_def, ↓reduceIte, h4] <;> simp [refBody]
  · have e : refBody false k L = none := by simp [refBody, k1, k2, k4]
    rw [e]
    rcases hX with rfl | ⟨rfl, rfl⟩ <;> (refine dw_in (fn := Try.f29) rfl body29 (by simp) ?_) <;> simp -implicitDefEqProofs (maxSteps := 4000000) (disch := omega) only [go_sem, go_sem_proc, dr, Nat.min_def, ↓reduceIte, eq_false k1, eq_false k2, eq_false k4]
end Go.Proofs.Ytmaehmacngldbaa.D
