/- Columns of numbers: lists of the unlike; a column told. -/
import Derived.Test.YtojaklgmojmjeaaIcol3
namespace Go.Proofs.Ytojaklgmojmjeaa.D
open Go Go.Den
set_option linter.unusedSimpArgs false
set_option linter.unusedVariables false
set_option maxRecDepth 20000
set_option maxHeartbeats 8000000
theorem wide_spec {n : Nat} (hn : n ≤ 65536) : dw E 38 [.int .i64 n] [] = some (.int .i64 (width (n - 1)), []) := by
  have hW := Width_spec (u := n - 1) (by omega)
  refine dw_in (fn := Try.f38) rfl body38 (by simp) ?_
  by_cases h : n = 0
  · subst h
    have hW0 : dw E 61 [.int .u64 0] [] = some (.int .i64 (width (0 - 1)), []) := hW
    simp -implicitDefEqProofs (maxSteps := 4000000) (disch := omega) only [go_sem, go_sem_proc, dr, Nat.min_def, ↓reduceIte, hW0]
  · have e : ((n - 1 : Nat) : Int) = (n : Int) - 1 := by omega
    rw [e] at hW
    simp -implicitDefEqProofs (maxSteps := 4000000) (disch := omega) only [go_sem, go_sem_proc, dr, Nat.min_def, ↓reduceIte, hW]
theorem nan1 {x : Int} : dw E 81 [.int .i64 x] [] = some (.bool false, []) := by
  refine dw_in (fn := Try.f81) rfl body81 (by simp) ?_
  simp -implicitDefEqProofs (maxSteps := 4000000) (disch := omega) only [go_sem, go_sem_proc, dr, Nat.min_def, ↓reduceIte]
theorem nan2 {x : Int} : dw E 85 [.int .i64 x] [] = some (.bool false, []) := by
  refine dw_in (fn := Try.f85) rfl body85 (by simp) ?_
  simp -implicitDefEqProofs (maxSteps := 4000000) (disch := omega) only [go_sem, go_sem_proc, dr, Nat.min_def, ↓reduceIte]
theorem Less_spec {x y : Int} : dw E 80 [.int .i64 x, .int .i64 y] [] = some (.bool (decide (x < y)), []) := by
  refine dw_in (fn := Try.f80) rfl body80 (by simp) ?_
  simp -implicitDefEqProofs (maxSteps := 4000000) (disch := omega) only [go_sem, go_sem_proc, dr, Nat.min_def, ↓reduceIte, nan1, nan2]
theorem sortG_ints (e : TypeId) (zs : List Int) (h : zs.length ≤ lim) : sortG e 1 (ints .i64 zs) = some (ints .i64 (sortZ zs)) := sortG_row e zs h
theorem compactG_ints (e : TypeId) (zs : List Int) (h : zs.length ≤ lim) : compactG e 1 (ints .i64 zs) = some (ints .i64 (cpZ none zs)) := compactG_row e zs h
theorem Sorted_sl {l : List Int} (hl : l.length ≤ 65535) : dw E 67 [.fn 79 [.pc [.sl 1 (ints .i64 l)]]] [] = some (.nr 2 1 (ints .i64 (sortZ l)), []) := by
  have hC := collectF_ints 79 2 l (by omega)
  have hS := sortG_ints 2 l (by unfold lim; omega)
  refine dw_in (fn := Try.f67) rfl body67 (by simp) ?_
  simp -implicitDefEqProofs (maxSteps := 4000000) (disch := omega) only [go_sem, go_sem_proc, dr, Nat.min_def, ↓reduceIte, hC, hS]
theorem BS_sl {u : List Int} {x : Int} (hs : u.Pairwise (· < ·)) (hl : u.length ≤ 65535) : ∃ b, dw E 69 [.sl 1 (ints .i64 u), .int .i64 x] [] = some (.tup [.int .i64 (lb u x), .bool b], []) := by
  have hle := lb_le u x
  have hlt : ∀ {h : Nat} {y : Int}, u[h]? = some y → (y < x ↔ h < lb u x) := fun hy => lb_lt hs hy
  generalize hk : lb u x = k at *
  obtain ⟨b, hb⟩ : ∃ b, (∀ y, u[k]? = some y → b = decide (y = x)) ∧ (u[k]? = none → b = false) := by
    cases hq : u[k]? with
    | none => exact ⟨false, by simp, by simp⟩
    | some y => exact ⟨decide (y = x), by simp, by simp⟩
  refine ⟨b, ?_⟩
  obtain ⟨C, hC⟩ : ∃ C : Int, (u.length : Int) = C := ⟨_, rfl⟩
  refine dw_in (fn := Try.f69) rfl body69 (by simp) ?_
  simp -implicitDefEqProofs (maxSteps := 4000000) (disch := omega) only [go_sem, go_sem_proc, dr, Nat.min_def, ↓reduceIte, hC]
  refine runs_any (fun a : Nat × Nat => (⟨[(0, .sl 1 (ints .i64 u)), (1, .int .i64 x), (6, .int .i64 C), (7, .int .i64 a.1), (8, .int .i64 a.2)], [], 1⟩ : St)) (fun a => a.2 - a.1) (0, u.length) (fun a => a.1 ≤ k ∧ k ≤ a.2 ∧ a.2 ≤ u.length) ⟨Nat.zero_le _, hle, Nat.le_refl _⟩ ?_ ?_
  · simp -implicitDefEqProofs (maxSteps := 4000000) (disch := omega) only [go_sem, go_sem_proc, dr, Nat.min_def, ↓reduceIte, hC]
  · rintro ⟨i, j⟩ ⟨h1, h2, h3⟩
    dsimp only at h1 h2 h3 ⊢
    by_cases hij : i < j
    · obtain ⟨h, hh⟩ : ∃ h, (i + j) / 2 = h := ⟨_, rfl⟩
      have e : ((i : Int) + (j : Int)) / 2 = (h : Int) := by omega
      obtain ⟨y, hy, _, _⟩ := take_get (l := u) (i := h) (by omega)
      have hL := Less_spec (x := y) (y := x)
      have hiff := hlt hy
      have hC1 : 0 ≤ C ∧ C ≤ 65535 := by omega
      have hC2 : (h : Int) < C := by omega
      by_cases hc : y < x
      · have hc' := hiff.1 hc
        rw [decide_eq_true hc] at hL
        clear hlt hb hiff hc hs hk hC
        simp -implicitDefEqProofs (maxSteps := 4000000) (disch := omega) only [go_sem, go_sem_proc, dr, Nat.min_def, ↓reduceIte, e, hy, hL]
        exact ⟨(h + 1, j), rfl, ⟨hc', h2, h3⟩, by show j - (h + 1) < j - i; omega⟩
      · have hc' : k ≤ h := by
          have h0 : ¬ h < k := fun h0 => hc (hiff.2 h0)
          omega
        rw [decide_eq_false hc] at hL
        clear hlt hb hiff hc hs hk hC
        simp -implicitDefEqProofs (maxSteps := 4000000) (disch := omega) only [go_sem, go_sem_proc, dr, Nat.min_def, ↓reduceIte, e, hy, hL]
        exact ⟨(i, h), rfl, ⟨h1, hc', by omega⟩, by show h - i < j - i; omega⟩
    · have hi : i = k := by omega
      have hj : j = k := by omega
      subst hi; subst hj
      cases hq : u[j]? with
      | none =>
        have hb := hb.2 hq
        have : u.length ≤ j := List.getElem?_eq_none_iff.1 hq
        have hC1 : C ≤ j := by omega
        subst hb
        clear hlt hs hk hC hle h3
        simp -implicitDefEqProofs (maxSteps := 4000000) (disch := omega) only [go_sem, go_sem_proc, dr, Nat.min_def, ↓reduceIte]
      | some y =>
        have hb := hb.1 y hq
        have : j < u.length := (List.getElem?_eq_some_iff.1 hq).1
        have hC1 : (j : Int) < C := by omega
        subst hb
        clear hlt hs hk hC hle h3
        by_cases hyx : y = x
        · subst hyx
          simp -implicitDefEqProofs (maxSteps := 4000000) (disch := omega) only [go_sem, go_sem_proc, dr, Nat.min_def, ↓reduceIte, hq]
        · have hyx' := eq_false hyx
          rw [decide_eq_false hyx]
          clear hyx
          simp -implicitDefEqProofs (maxSteps := 4000000) (disch := omega) only [go_sem, go_sem_proc, dr, Nat.min_def, ↓reduceIte, hq, hyx', nan1]
theorem Compact_row {zs : List Int} (h : zs.length ≤ 65535) : compactG 2 1 (ints .i64 zs) = some (ints .i64 (cpZ none zs)) := compactG_ints _ zs (by unfold lim; omega)
theorem dict_sl {l : List Int} (h : Ri64 l) (hl : l.length ≤ 65535) : dw E 42 [.sl 1 (ints .i64 l)] [] = some (.nr 5 1 (ints .u8 (dictL l)), []) := by
  have hS := Sorted_sl (l := l) hl
  have hsl : (sortZ l).length ≤ 65535 := by rw [(sortZ_perm l).length_eq]; exact hl
  have hC := Compact_row hsl
  have hul := uniq_len l
  have hur : Ri64 (uniq l) := h.sub fun x hx => uniq_mem.1 hx
  have hus := uniq_sorted l
  have hum : ∀ x ∈ l, x ∈ uniq l := fun x hx => uniq_mem.2 hx
  have hV := valuesF_sl 79 1 (ints .i64 l)
  have hN0 := Num_nils (u := ((uniq l).length : Int)) (by omega) (by omega)
  have hn0 := num_len10 (u := ((uniq l).length : Int)) (by omega) (by omega)
  change compactG 2 1 (ints .i64 (sortZ l)) = some (ints .i64 (uniq l)) at hC
  have hzl := zigs_len hur
  unfold dictL
  generalize uniq l = u at *
  obtain ⟨C, hCC⟩ : ∃ C : Int, (u.length : Int) = C := ⟨_, rfl⟩
  obtain ⟨D, hD⟩ : ∃ D : Int, (l.length : Int) = D := ⟨_, rfl⟩
  have hC1 : 0 ≤ C ∧ C ≤ 65535 := by omega
  have hD1 : 0 ≤ D ∧ D ≤ 65535 := by omega
  rw [hCC] at hN0 hn0 ⊢
  refine dw_in (fn := Try.f42) rfl body42 (by simp) ?_
  simp -implicitDefEqProofs (maxSteps := 4000000) (disch := omega) only [go_sem, go_sem_proc, dr, Nat.min_def, ↓reduceIte, hCC, hV, hS, hC, hN0, List.length_map]
  refine runs_for (fun i : Nat => (⟨[(0, .sl 1 (ints .i64 l)), (3, .sl 1 (ints .i64 u)), (4, .h 2097408), (20, .sl 1 (ints .i64 u)), (21, .int .i64 C), (22, .int .i64 i)], [(2097408, some ⟨true, .row 5 1 (ints .u8 (num C ++ zigs (u.take i)))⟩)], 1⟩ : St)) u.length ?_ ?_ ?_
  · simp -implicitDefEqProofs (maxSteps := 4000000) (disch := omega) only [go_sem, go_sem_proc, dr, Nat.min_def, ↓reduceIte, List.take_zero, zigs_nil, List.append_nil]
  · intro i hi
    obtain ⟨x, hx, hm, ht⟩ := take_get hi
    have hr := hur x hm
    have hZ := Zig_spec hr.1 hr.2
    have hz := zig_r hr
    have hlen := zigs_len (l := u.take i) (hur.sub fun z hz => List.mem_of_mem_take hz)
    simp only [List.length_take] at hlen
    have hN := Num_sl (zs := num C ++ zigs (u.take i)) (u := zig x) (by rw [List.length_append]; omega) hz.1 hz.2
    have hiC : (i : Int) < C := by omega
    clear hlen h hur hum hS hV hC hN0 hzl hul hn0 hus hi
    simp -implicitDefEqProofs (maxSteps := 4000000) (disch := omega) only [go_sem, go_sem_proc, dr, Nat.min_def, ↓reduceIte, hx, hZ, hN]
    rw [ht, zigs_snoc, List.append_assoc]
  · rw [List.take_length]
    generalize hB : num C ++ zigs u = B
    have hBl : B.length ≤ 700000 := by rw [← hB, List.length_append]; omega
    clear hS hV hC hN0 hzl hn0 hur hB
    simp -implicitDefEqProofs (maxSteps := 4000000) (disch := omega) only [go_sem, go_sem_proc, dr, Nat.min_def, ↓reduceIte, hCC, hD]
    refine runs_for (fun i : Nat => (⟨[(3, .sl 1 (ints .i64 u)), (4, .h 2097408), (7, .h 2097600), (31, .sl 1 (ints .i64 l)), (32, .int .i64 D), (33, .int .i64 i)], [(2097408, some ⟨true, .row 5 1 (ints .u8 B)⟩), (2097600, some ⟨true, .row 59 1 (ints .u64 ((l.take i).map fun x => (lb u x : Int)))⟩)], 1⟩ : St)) l.length ?_ ?_ ?_
    · simp -implicitDefEqProofs (maxSteps := 4000000) (disch := omega) only [go_sem, go_sem_proc, dr, Nat.min_def, ↓reduceIte, List.take_zero, List.map_nil]
      rfl
    · intro i hi
      obtain ⟨x, hx, hm, ht⟩ := take_get hi
      obtain ⟨b, hb⟩ := BS_sl (u := u) (x := x) hus (by omega)
      have hlb := lb_le u x
      have hiD : (i : Int) < D := by omega
      have hlt : (l.take i).length ≤ 65535 := by simp; omega
      have hk : ((lb u x : Nat) : Int) ≤ 65535 := by omega
      have hk0 : 0 ≤ ((lb u x : Nat) : Int) := by omega
      generalize hL : ((lb u x : Nat) : Int) = L at hb hk hk0
      clear h hum hul hus hi
      simp -implicitDefEqProofs (maxSteps := 4000000) (disch := omega) only [go_sem, go_sem_proc, dr, Nat.min_def, ↓reduceIte, hx, hb, List.length_map]
      rw [ht, List.map_append, List.map_cons, List.map_nil, hL]
    · rw [List.take_length]
      have hW := wide_spec (n := u.length) (by omega)
      have hwl : width (u.length - 1) ≤ 64 := width_le (by omega)
      have h64 : R64 (l.map fun x => (lb u x : Int)) := fun z hz => by
        obtain ⟨x, hx, rfl⟩ := List.mem_map.1 hz
        have := lb_le u x
        omega
      have hP := Pack_spec (n := width (u.length - 1)) (l := l.map fun x => (lb u x : Int)) (by simpa using (by omega : l.length ≤ 100000)) h64
      rw [heldN_nat hwl] at hP
      rw [hCC] at hW
      have hpl := packL_length (width (u.length - 1)) (l.map fun x => (lb u x : Int))
      rw [List.length_map] at hpl
      have hpm : width (u.length - 1) * l.length ≤ 64 * 65535 := Nat.mul_le_mul hwl hl
      have hg : B.length + (width (u.length - 1) * l.length + 7) / 8 ≤ 2000000 := by omega
      generalize width (u.length - 1) = wd at hW hP hpl hpm hg ⊢
      clear h hum hul hus hpm h64
      simp -implicitDefEqProofs (maxSteps := 4000000) (disch := omega) only [go_sem, go_sem_proc, dr, Nat.min_def, ↓reduceIte, hCC, hW, hP, hpl]
theorem dict_nils : dw E 42 [.nils] [] = some (.nr 5 1 (ints .u8 (dictL [])), []) := by
  have e : dictL [] = [0] := by
    show num 0 ++ zigs [] ++ packL (width 0) [] = [0]
    rw [num_lt (by decide) (by decide)]
    rfl
  rw [e]
  exact dw_of (k := 60) (by kernel_rfl)
theorem dict_spec {X : PV} {l : List Int} (hX : IsI X l) (h : Ri64 l) (hl : l.length ≤ 65535) : dw E 42 [X] [] = some (.nr 5 1 (ints .u8 (dictL l)), []) := by
  rcases hX with rfl | ⟨rfl, rfl⟩
  · exact dict_sl h hl
  · exact dict_nils
/-- bytes as they come back: none are nil -/
def bodyR (k : Int) (l : List Int) : PV := if k = 3 ∧ l = [] then .nils else .nr 5 1 (ints .u8 ((bodyL k l).getD []))
theorem body_spec {X : PV} {k : Int} {l : List Int} (hX : IsI X l) (h : Ri64 l) (hl : l.length ≤ 65535) : dw E 25 [.int .i64 k, X] [] = some (.tup (match bodyL k l with | some b => [bodyR k l, .bool true] | none => [.nils, .bool false]), []) := by
  have h1 := plain_spec hX h hl
  have h2 := runs_spec hX h hl
  have h4 := dict_spec hX h hl
  have h3 : dw E 41 [X] [] = some (bodyR 3 l, []) := by
    by_cases hn : l = []
    · subst hn
      rw [frame_nil hX, bodyR, if_pos ⟨rfl, rfl⟩]
    · rcases hX with rfl | ⟨_, h0⟩
      · rw [frame_spec (List.length_pos_iff.2 hn) h hl, bodyR, if_neg (fun h => hn h.2)]
        rfl
      · exact absurd h0 hn
  by_cases k1 : k = 1
  · subst k1
    rcases hX with rfl | ⟨rfl, rfl⟩ <;> (refine dw_in (fn := Try.f25) rfl body25 (by simp) ?_) <;> simp -implicitDefEqProofs (maxSteps := 4000000) (disch := omega) only [go_sem, go_sem_proc, dr, Nat.min_def, ↓reduceIte, h1] <;> simp [bodyL, bodyR]
  by_cases k2 : k = 2
  · subst k2
    rcases hX with rfl | ⟨rfl, rfl⟩ <;> (refine dw_in (fn := Try.f25) rfl body25 (by simp) ?_) <;> simp -implicitDefEqProofs (maxSteps := 4000000) (disch := omega) only [go_sem, go_sem_proc, dr, Nat.min_def, ↓reduceIte, h2] <;> simp [bodyL, bodyR]
  by_cases k3 : k = 3
  · subst k3
    have e : bodyL 3 l = some (frameL l) := rfl
    rw [e]
    by_cases hn : l = []
    · have e2 : bodyR 3 l = .nils := by rw [bodyR, if_pos ⟨rfl, hn⟩]
      rw [e2] at h3 ⊢
      rcases hX with rfl | ⟨rfl, rfl⟩ <;> (refine dw_in (fn := Try.f25) rfl body25 (by simp) ?_) <;> simp -implicitDefEqProofs (maxSteps := 4000000) (disch := omega) only [go_sem, go_sem_proc, dr, Nat.min_def, ↓reduceIte, h3]
    · have e2 : bodyR 3 l = .nr 5 1 (ints .u8 (frameL l)) := by rw [bodyR, if_neg (fun h => hn h.2)]; rfl
      rw [e2] at h3 ⊢
      rcases hX with rfl | ⟨rfl, rfl⟩ <;> (refine dw_in (fn := Try.f25) rfl body25 (by simp) ?_) <;> simp -implicitDefEqProofs (maxSteps := 4000000) (disch := omega) only [go_sem, go_sem_proc, dr, Nat.min_def, ↓reduceIte, h3]
  by_cases k4 : k = 4
  · subst k4
    rcases hX with rfl | ⟨rfl, rfl⟩ <;> (refine dw_in (fn := Try.f25) rfl body25 (by simp) ?_) <;> simp -implicitDefEqProofs (maxSteps := 4000000) (disch := omega) only [go_sem, go_sem_proc, dr, Nat.min_def, ↓reduceIte, h4] <;> simp [bodyL, bodyR]
  · have e : bodyL k l = none := by simp [bodyL, k1, k2, k3, k4]
    rw [e]
    rcases hX with rfl | ⟨rfl, rfl⟩ <;> (refine dw_in (fn := Try.f25) rfl body25 (by simp) ?_) <;> simp -implicitDefEqProofs (maxSteps := 4000000) (disch := omega) only [go_sem, go_sem_proc, dr, Nat.min_def, ↓reduceIte, eq_false k1, eq_false k2, eq_false k3, eq_false k4]
/-- what Tell gives back -/
def tellR (k : Int) (l : List Int) : PV := match tellL k l with
  | some b => .tup [.nr 5 1 (ints .u8 b), .bool true]
  | none => .tup [.nils, .bool false]
theorem body_len {k : Int} {l b : List Int} (h : Ri64 l) (hl : l.length ≤ 65535) (hb : bodyL k l = some b) : b.length ≤ 3000000 ∧ R8 b ∧ 1 ≤ k ∧ k ≤ 4 := by
  unfold bodyL at hb
  split at hb
  · injection hb with hb; subst hb
    have := zigs_len h
    exact ⟨by omega, zigs_R8 h, by omega, by omega⟩
  split at hb
  · injection hb with hb; subst hb
    have := runs_facts l.length (Nat.le_refl _) (by omega) h
    exact ⟨by omega, this.1, by omega, by omega⟩
  split at hb
  · injection hb with hb; subst hb
    unfold frameL
    split
    · exact ⟨by simp, fun z hz => by simp at hz, by omega, by omega⟩
    · rename_i hne
      have ha := h _ (minL_mem hne)
      have hz := zig_r ha
      have h1 := num_len10 hz.1 hz.2
      have hw := wideL_le h
      have hpl := packL_length (wideL l) (l.map fun x => x - minL l)
      rw [List.length_map] at hpl
      have hpm : wideL l * l.length ≤ 64 * 65535 := Nat.mul_le_mul hw hl
      refine ⟨by simp only [List.length_append, List.length_cons]; omega, (num_r8 hz.1 hz.2).append (fun z hz => ?_), by omega, by omega⟩
      rcases List.mem_cons.1 hz with rfl | hz
      · omega
      · exact packL_R8 _ _ z hz
  split at hb
  · injection hb with hb; subst hb
    have hul := uniq_len l
    have hur : Ri64 (uniq l) := h.sub fun x hx => uniq_mem.1 hx
    have h1 := num_len10 (u := ((uniq l).length : Int)) (by omega) (by omega)
    have h2 := zigs_len hur
    have hw : width ((uniq l).length - 1) ≤ 64 := width_le (by omega)
    have hpl := packL_length (width ((uniq l).length - 1)) (l.map fun x => (lb (uniq l) x : Int))
    rw [List.length_map] at hpl
    have hpm : width ((uniq l).length - 1) * l.length ≤ 64 * 65535 := Nat.mul_le_mul hw hl
    unfold dictL
    refine ⟨by simp only [List.length_append]; omega, ((num_r8 (by omega) (by omega)).append (zigs_R8 hur)).append (packL_R8 _ _), by omega, by omega⟩
  · cases hb
theorem Tell_spec {X : PV} {k : Int} {l : List Int} (hX : IsI X l) (h : Ri64 l) (hl : l.length ≤ 1000000) : dw E 12 [.int .i64 k, X] [] = some (tellR k l, []) := by
  unfold tellR tellL
  by_cases h6 : 65535 < l.length
  · rw [if_pos h6]
    rcases hX with rfl | ⟨rfl, rfl⟩
    · refine dw_in (fn := Try.f12) rfl body12 (by simp) ?_
      simp -implicitDefEqProofs (maxSteps := 4000000) (disch := omega) only [go_sem, go_sem_proc, dr, Nat.min_def, ↓reduceIte]
    · simp at h6
  · rw [if_neg h6]
    have hB := body_spec (k := k) hX h (by omega)
    cases hb : bodyL k l with
    | none =>
      rw [hb] at hB
      dsimp only at hB ⊢
      rcases hX with rfl | ⟨rfl, rfl⟩ <;> (refine dw_in (fn := Try.f12) rfl body12 (by simp) ?_) <;> simp -implicitDefEqProofs (maxSteps := 4000000) (disch := omega) only [go_sem, go_sem_proc, dr, Nat.min_def, ↓reduceIte, hB, List.length_nil]
    | some b =>
      rw [hb] at hB
      obtain ⟨hbl, hb8, hk1, hk4⟩ := body_len h (by omega) hb
      dsimp only at hB ⊢
      by_cases hn : k = 3 ∧ l = []
      · obtain ⟨rfl, rfl⟩ := hn
        have e : bodyL 3 [] = some [] := rfl
        rw [e] at hb
        injection hb with hb
        subst hb
        rw [bodyR, if_pos ⟨rfl, rfl⟩] at hB
        have e2 : ints .u8 [3] = [[.int .u8 3]] := rfl
        rw [e2]
        rcases hX with rfl | ⟨rfl, _⟩
        · have e0 : ints .i64 [] = [] := rfl
          rw [e0] at hB ⊢
          refine dw_in (fn := Try.f12) rfl body12 (by simp) ?_
          simp -implicitDefEqProofs (maxSteps := 4000000) (disch := omega) only [go_sem, go_sem_proc, dr, Nat.min_def, ↓reduceIte, hB, List.length_nil]
        · refine dw_in (fn := Try.f12) rfl body12 (by simp) ?_
          simp -implicitDefEqProofs (maxSteps := 4000000) (disch := omega) only [go_sem, go_sem_proc, dr, Nat.min_def, ↓reduceIte, hB, List.length_nil]
      · rw [bodyR, if_neg hn, hb, Option.getD_some] at hB
        have e1 : k % 256 = k := by omega
        clear hb8 hb hn
        rcases hX with rfl | ⟨rfl, rfl⟩ <;> (refine dw_in (fn := Try.f12) rfl body12 (by simp) ?_) <;> simp -implicitDefEqProofs (maxSteps := 4000000) (disch := omega) only [go_sem, go_sem_proc, dr, Nat.min_def, ↓reduceIte, hB, List.length_nil, e1, List.singleton_append]
end Go.Proofs.Ytojaklgmojmjeaa.D
