/- The document's own columns: a list of the unlike. -/
import Derived.Test.YtmaehmacngldbaaRef4
namespace Go.Proofs.Ytmaehmacngldbaa.D
open Go Go.Den
set_option linter.unusedSimpArgs false
set_option linter.unusedVariables false
set_option maxRecDepth 20000
set_option maxHeartbeats 8000000
theorem idxs_R64 {L : List RB'} (hl : L.length ≤ 1000000) : R64 (idxsO L) := fun z hz => by
  obtain ⟨o, _, rfl⟩ := List.mem_map.1 hz
  have h1 := idxO_le (unlikeO L) (bz o)
  have h2 := unlikeO_len L
  omega
theorem rtell_4 {L : List RB'} {nums : Bool} (hL : BS L) (hl : L.length ≤ 65535) : dw E 30 [.int .i64 4, .sl 1 (L.map brow), .bool nums] [] = some (.tup [.nr 5 1 (ints .u8 (4 :: dictO nums L)), .bool true], []) := by
  have hU := unlike_spec (BS_BG hL) (by omega)
  have hul := unlikeO_len L
  have hUb : BS (unlikeO L) := fun y hy => hL y (unlikeO_sub hy)
  have hix : ∀ o ∈ L, ∃ y, (unlikeO L)[idxO (unlikeO L) (bz o)]? = some y ∧ bz y = bz o := fun o ho => idxO_mem ((unlikeO_mem L (bz o)).2 ⟨o, ho, rfl⟩)
  have h64 := idxs_R64 (L := L) (by omega)
  have hil : (idxsO L).length = L.length := by simp [idxsO]
  unfold dictO
  have hidx : idxsO L = L.map fun o => (idxO (unlikeO L) (bz o) : Int) := rfl
  generalize unlikeO L = U at *
  have hN := RefNum_sl (zs := [4]) (u := (U.length : Int)) (by decide) (by omega) (by omega)
  have hn1 := num_len10 (u := (U.length : Int)) (by omega) (by omega)
  have hq : [4] ++ num (U.length : Int) = 4 :: num (U.length : Int) := rfl
  rw [hq] at hN
  have hW := RWidth_spec (u := U.length - 1) (by omega)
  have hwl : width (U.length - 1) ≤ 64 := width_le (by omega)
  have hP := RPack_spec (n := (width (U.length - 1) : Nat)) (l := idxsO L) (by omega) h64
  rw [heldN_nat hwl] at hP
  have hpl := packL_length (width (U.length - 1)) (idxsO L)
  rw [hil] at hpl
  have hpm : width (U.length - 1) * L.length ≤ 64 * 65535 := Nat.mul_le_mul hwl hl
  have htl := toldL_len (nums := nums) hUb
  obtain ⟨C, hC⟩ : ∃ C : Int, (U.length : Int) = C := ⟨_, rfl⟩
  have hC0 : 0 ≤ C ∧ C ≤ 65535 := by omega
  have hmax : ((U.length - 1 : Nat) : Int) = if C - 1 < 0 then 0 else C - 1 := by split <;> omega
  rw [hmax] at hW
  generalize hwd : width (U.length - 1) = wd at *
  rw [hC] at hN hn1 ⊢
  generalize hq1 : num C = q1 at *
  refine dw_in (fn := Try.f30) rfl body30 (by simp) ?_
  simp -implicitDefEqProofs (maxSteps := 4000000) (disch := omega) only [go_sem, go_sem_proc, dr, Nat.min_def, ↓reduceIte, List.length_map, hU, hC, hN]
  refine runs_for (fun i : Nat => (⟨[(1, .sl 1 (L.map brow)), (2, .bool nums), (8, .h 2097664), (18, .h 2098304), (19, .int .i64 i)], [(2097664, some ⟨true, .row 5 1 (ints .u8 (4 :: (q1 ++ toldL nums (U.take i))))⟩), (2098304, some ⟨true, .row 28 1 (U.map brow)⟩)], 1⟩ : St)) U.length ?_ ?_ ?_
  · have e : toldL nums [] = [] := rfl
    simp -implicitDefEqProofs (maxSteps := 4000000) (disch := omega) only [go_sem, go_sem_proc, dr, Nat.min_def, ↓reduceIte, List.take_zero, e, List.append_nil]
  · intro i hi
    obtain ⟨o, ho, hm, ht⟩ := take_get hi
    have ho8 := BS_get hUb ho
    have hT0 := toldL_len (nums := nums) (L := U.take i) (fun y hy => hUb y (List.mem_of_mem_take hy))
    rw [List.length_take] at hT0
    have hT := told_spec (zs := 4 :: (q1 ++ toldL nums (U.take i))) (nums := nums) (by rw [List.length_cons, List.length_append]; omega) ho8.1 (by omega)
    rw [ht, toldL_snoc, ← List.append_assoc]
    rw [List.cons_append] at hT
    have hiC : (i : Int) < C := by omega
    generalize q1 ++ toldL nums (U.take i) = out at *
    generalize toldO nums o = q at *
    clear hT0 ht hm hL hix htl hU hN hW hP hUb h64
    simp -implicitDefEqProofs (maxSteps := 4000000) (disch := omega) only [go_sem, go_sem_proc, dr, Nat.min_def, ↓reduceIte, hC, List.length_map, List.getElem?_map, Option.map_some, ho, brow, hT]
  · rw [List.take_length]
    have hB : (q1 ++ toldL nums U).length ≤ 5000000 := by rw [List.length_append]; omega
    generalize q1 ++ toldL nums U = B at *
    clear hU hN htl
    simp -implicitDefEqProofs (maxSteps := 4000000) (disch := omega) only [go_sem, go_sem_proc, dr, Nat.min_def, ↓reduceIte, hC, List.length_map]
    refine runs_for (fun i : Nat => (⟨[(1, .sl 1 (L.map brow)), (8, .h 2097664), (18, .h 2098304), (20, .h 2098432), (21, .int .i64 i)], [(2097664, some ⟨true, .row 5 1 (ints .u8 (4 :: B))⟩), (2098304, some ⟨true, .row 28 1 (U.map brow)⟩), (2098432, some ⟨true, .row 58 1 (ints .u64 ((idxsO L).take i))⟩)], 1⟩ : St)) L.length ?_ ?_ ?_
    · simp -implicitDefEqProofs (maxSteps := 4000000) (disch := omega) only [go_sem, go_sem_proc, dr, Nat.min_def, ↓reduceIte, List.take_zero]
      rfl
    · intro i hi
      obtain ⟨o, ho, hm, _⟩ := take_get hi
      have ho8 := BS_get hL ho
      obtain ⟨y, hy, hye⟩ := hix o hm
      have hlt := fun {j : Nat} {y : RB'} => idxO_lt (w := U) (x := bz o) (j := j) (o := y)
      have hgi : (idxsO L)[i]? = some ((idxO U (bz o) : Nat) : Int) := by rw [hidx, List.getElem?_map, ho]; rfl
      have hts : (idxsO L).take (i + 1) = (idxsO L).take i ++ [((idxO U (bz o) : Nat) : Int)] := by rw [List.take_add_one, hgi]; rfl
      have hy8 := BS_get hUb hy
      have hkU := (List.getElem?_eq_some_iff.1 hy).1
      rw [hts]
      have hol : ((idxsO L).take i).length ≤ 65535 := by rw [List.length_take]; omega
      generalize (idxsO L).take i = out at *
      generalize idxO U (bz o) = k0 at *
      clear hts hgi hW hP h64 hpl hpm hix hidx hil
      simp -implicitDefEqProofs (maxSteps := 4000000) (disch := omega) only [go_sem, go_sem_proc, dr, Nat.min_def, ↓reduceIte, List.length_map]
      refine runs_any (fun k : Nat => (⟨[(1, .sl 1 (L.map brow)), (8, .h 2097664), (18, .h 2098304), (20, .h 2098432), (21, .int .i64 i), (22, .int .i64 k)], [(2097664, some ⟨true, .row 5 1 (ints .u8 (4 :: B))⟩), (2098304, some ⟨true, .row 28 1 (U.map brow)⟩), (2098432, some ⟨true, .row 58 1 (ints .u64 out)⟩)], 1⟩ : St)) (fun k => U.length - k) 0 (fun k => k ≤ k0) (Nat.zero_le _) ?_ ?_
      · simp -implicitDefEqProofs (maxSteps := 4000000) (disch := omega) only [go_sem, go_sem_proc, dr, Nat.min_def, ↓reduceIte]
      · intro k hk
        obtain ⟨z, hz, _, _⟩ := take_get (l := U) (i := k) (by omega)
        have hz8 := BS_get hUb hz
        have hq := toU8_beq hz8.1 ho8.1
        by_cases hkk : k < k0
        · rw [decide_eq_false (hlt hkk hz)] at hq
          clear hlt
          simp -implicitDefEqProofs (maxSteps := 4000000) (disch := omega) only [go_sem, go_sem_proc, dr, Nat.min_def, ↓reduceIte, List.length_map, List.getElem?_map, Option.map_some, ho, hz, brow, hq]
          exact ⟨by ((repeat' split) <;> (change _ = true; kernel_rfl)), k + 1, rfl, hkk, by omega⟩
        · obtain rfl : k = k0 := by omega
          rw [hy] at hz
          injection hz with hz
          subst hz
          rw [decide_eq_true hye] at hq
          clear hlt
          simp -implicitDefEqProofs (maxSteps := 4000000) (disch := omega) only [go_sem, go_sem_proc, dr, Nat.min_def, ↓reduceIte, List.length_map, List.getElem?_map, Option.map_some, ho, hy, brow, hq]
          ((repeat' split) <;> (change _ = true; kernel_rfl))
    · have ht : (idxsO L).take L.length = idxsO L := by rw [← hil]; exact List.take_length
      rw [ht]
      clear h64 hix hidx ht
      simp -implicitDefEqProofs (maxSteps := 4000000) (disch := omega) only [go_sem, go_sem_proc, dr, Nat.min_def, ↓reduceIte, hC, List.length_map, hW, hP, hpl]
theorem mn_facts : ∀ (l : List Int) (a : Int), l.foldl (fun a b => if b < a then b else a) a ≤ a ∧ (∀ x ∈ l, l.foldl (fun a b => if b < a then b else a) a ≤ x) ∧ (l.foldl (fun a b => if b < a then b else a) a = a ∨ l.foldl (fun a b => if b < a then b else a) a ∈ l)
  | [], a => ⟨Int.le_refl _, by simp, .inl rfl⟩
  | y :: r, a => by
    obtain ⟨m, hm, e⟩ : ∃ m : Int, (m ≤ a ∧ m ≤ y ∧ (m = a ∨ m = y)) ∧ (if y < a then y else a) = m := ⟨_, by split <;> omega, rfl⟩
    obtain ⟨h1, h2, h3⟩ := mn_facts r m
    simp only [List.foldl_cons, e]
    refine ⟨by omega, fun z hz => ?_, ?_⟩
    · rcases List.mem_cons.1 hz with rfl | hz
      · omega
      · exact h2 z hz
    · rcases h3 with h | h
      · rw [h]; rcases hm.2.2 with h | h
        · exact .inl h
        · exact .inr (by simp [h])
      · exact .inr (by simp [h])
theorem mx_facts : ∀ (l : List Int) (a : Int), a ≤ l.foldl (fun a b => if a < b then b else a) a ∧ (∀ x ∈ l, x ≤ l.foldl (fun a b => if a < b then b else a) a) ∧ (l.foldl (fun a b => if a < b then b else a) a = a ∨ l.foldl (fun a b => if a < b then b else a) a ∈ l)
  | [], a => ⟨Int.le_refl _, by simp, .inl rfl⟩
  | y :: r, a => by
    obtain ⟨m, hm, e⟩ : ∃ m : Int, (a ≤ m ∧ y ≤ m ∧ (m = a ∨ m = y)) ∧ (if a < y then y else a) = m := ⟨_, by split <;> omega, rfl⟩
    obtain ⟨h1, h2, h3⟩ := mx_facts r m
    simp only [List.foldl_cons, e]
    refine ⟨by omega, fun z hz => ?_, ?_⟩
    · rcases List.mem_cons.1 hz with rfl | hz
      · omega
      · exact h2 z hz
    · rcases h3 with h | h
      · rw [h]; rcases hm.2.2 with h | h
        · exact .inl h
        · exact .inr (by simp [h])
      · exact .inr (by simp [h])
theorem numsO_r {L : List RB'} (hL : BS L) : Ri64 (numsO L) := fun z hz => by
  obtain ⟨o, ho, rfl⟩ := List.mem_map.1 hz
  exact n64_r (hL o ho).1
theorem mnmx {l : List Int} (hr : Ri64 l) (hn : l ≠ []) : (-9223372036854775808 ≤ mnL l ∧ mnL l < 9223372036854775808) ∧ (-9223372036854775808 ≤ mxL l ∧ mxL l < 9223372036854775808) ∧ mnL l ≤ mxL l ∧ ∀ x ∈ l, mnL l ≤ x := by
  cases l with
  | nil => exact absurd rfl hn
  | cons a r =>
    have h0 := hr a (by simp)
    obtain ⟨a1, a2, a3⟩ := mn_facts (a :: r) a
    obtain ⟨b1, b2, b3⟩ := mx_facts (a :: r) a
    have e1 : mnL (a :: r) = (a :: r).foldl (fun a b => if b < a then b else a) a := rfl
    have e2 : mxL (a :: r) = (a :: r).foldl (fun a b => if a < b then b else a) a := rfl
    rw [← e1] at a1 a2 a3
    rw [← e2] at b1 b2 b3
    refine ⟨?_, ?_, by omega, a2⟩
    · rcases a3 with h | h
      · rw [h]; exact h0
      · exact hr _ h
    · rcases b3 with h | h
      · rw [h]; exact h0
      · exact hr _ h
theorem rtell_3n {L : List RB'} (hL : BS L) (hl : L.length ≤ 65535) : dw E 30 [.int .i64 3, .sl 1 (L.map brow), .bool true] [] = some (.tup [.nr 5 1 (ints .u8 (3 :: frO L)), .bool true], []) := by
  by_cases hn : L = []
  · subst hn
    have e : frO [] = [] := rfl
    rw [e]
    refine dw_in (fn := Try.f30) rfl body30 (by simp) ?_
    simp -implicitDefEqProofs (maxSteps := 4000000) (disch := omega) only [go_sem, go_sem_proc, dr, Nat.min_def, ↓reduceIte, List.map_nil, List.length_nil]
  · have hnl : 0 < L.length := List.length_pos_iff.2 hn
    have hnr := numsO_r hL
    have hnn : numsO L ≠ [] := by simpa [numsO] using hn
    obtain ⟨m1, m2, m3, m4⟩ := mnmx hnr hnn
    have hget : ∀ {i : Nat} {o : RB'}, L[i]? = some o → (numsO L)[i]? = some (n64 (bz o)) := fun ho => by rw [numsO, List.getElem?_map, ho]; rfl
    have hnl2 : (numsO L).length = L.length := by simp [numsO]
    have hfr : frO L = num (zig (mnL (numsO L))) ++ (wideO L : Int) :: packL (wideO L) (farO L) := by unfold frO; rw [if_neg hn]
    have hfar : farO L = (numsO L).map fun x => x - mnL (numsO L) := rfl
    have hwo : wideO L = width (mxL (numsO L) - mnL (numsO L)).toNat := rfl
    have hlo : mnL (numsO L) = (numsO L).foldl (fun a b => if b < a then b else a) ((numsO L).headD 0) := rfl
    have hhi : mxL (numsO L) = (numsO L).foldl (fun a b => if a < b then b else a) ((numsO L).headD 0) := rfl
    obtain ⟨o0, ho0, _, _⟩ := take_get hnl
    have hh0 : (numsO L).headD 0 = n64 (bz o0) := by rw [List.headD_eq_head?_getD, List.head?_eq_getElem?, hget ho0]; rfl
    rw [hfr]
    have ho08 := BS_get hL ho0
    have h60 := number64_spec ho08.1 (by omega)
    refine dw_in (fn := Try.f30) rfl body30 (by simp) ?_
    simp -implicitDefEqProofs (maxSteps := 4000000) (disch := omega) only [go_sem, go_sem_proc, dr, Nat.min_def, ↓reduceIte, List.length_map, List.getElem?_map, Option.map_some, ho0, brow, h60]
    refine ⟨by ((repeat' split) <;> (change _ = true; kernel_rfl)), ?_⟩
    rw [hh0] at hlo hhi
    rw [hfar, hwo]
    clear hfr hfar hwo hh0
    have hmem : ∀ {i : Nat} {o : RB'}, L[i]? = some o → n64 (bz o) ∈ numsO L := fun ho => List.mem_of_getElem? (hget ho)
    have hfl : R64 ((numsO L).map fun x => x - mnL (numsO L)) := fun z hz => by
      obtain ⟨x, hx, rfl⟩ := List.mem_map.1 hz
      have := m4 x hx
      have := hnr x hx
      omega
    generalize hns : numsO L = ns at *
    generalize n64 (bz o0) = n0 at *
    refine runs_for (fun i : Nat => (⟨[(1, .sl 1 (L.map brow)), (8, .h 2097664), (12, .int .i64 ((ns.take i).foldl (fun a b => if b < a then b else a) n0)), (13, .int .i64 ((ns.take i).foldl (fun a b => if a < b then b else a) n0)), (14, .int .i64 i)], [(2097664, some ⟨true, .row 5 1 (ints .u8 [3])⟩)], 1⟩ : St)) L.length ?_ ?_ ?_
    · simp -implicitDefEqProofs (maxSteps := 4000000) (disch := omega) only [go_sem, go_sem_proc, dr, Nat.min_def, ↓reduceIte, List.take_zero, List.foldl_nil]
    · intro i hi
      obtain ⟨o, ho, hm, _⟩ := take_get hi
      have ho8 := BS_get hL ho
      have h6 := number64_spec ho8.1 (by omega)
      have hg := hget ho
      have ht : ns.take (i + 1) = ns.take i ++ [n64 (bz o)] := by rw [List.take_add_one, hg]; rfl
      rw [ht, List.foldl_append, List.foldl_append, List.foldl_cons, List.foldl_nil, List.foldl_cons, List.foldl_nil]
      generalize (ns.take i).foldl (fun a b => if b < a then b else a) n0 = lo at *
      generalize (ns.take i).foldl (fun a b => if a < b then b else a) n0 = hi' at *
      clear ht hg hlo hhi hfl h60 hL hget hmem hns
      simp -implicitDefEqProofs (maxSteps := 4000000) (disch := omega) only [go_sem, go_sem_proc, dr, Nat.min_def, ↓reduceIte, List.length_map, List.getElem?_map, Option.map_some, ho, brow, h6]
      first | done | exact ⟨by ((repeat' split) <;> (change _ = true; kernel_rfl)), rfl⟩ | ((repeat' split) <;> (change _ = true; kernel_rfl))
    · have ht : ns.take L.length = ns := by rw [← hnl2]; exact List.take_length
      rw [ht, ← hlo, ← hhi]
      clear ht hlo hhi
      generalize mnL ns = lo at *
      generalize mxL ns = hi at *
      simp -implicitDefEqProofs (maxSteps := 4000000) (disch := omega) only [go_sem, go_sem_proc, dr, Nat.min_def, ↓reduceIte, List.length_map]
      refine runs_for (fun i : Nat => (⟨[(1, .sl 1 (L.map brow)), (8, .h 2097664), (12, .int .i64 lo), (13, .int .i64 hi), (15, .h 2098112), (16, .int .i64 i)], [(2097664, some ⟨true, .row 5 1 (ints .u8 [3])⟩), (2098112, some ⟨true, .row 58 1 (ints .u64 ((ns.take i).map fun x => x - lo))⟩)], 1⟩ : St)) L.length ?_ ?_ ?_
      · simp -implicitDefEqProofs (maxSteps := 4000000) (disch := omega) only [go_sem, go_sem_proc, dr, Nat.min_def, ↓reduceIte, List.take_zero, List.map_nil]
        rfl
      · intro i hi
        obtain ⟨o, ho, hm, _⟩ := take_get hi
        have ho8 := BS_get hL ho
        have h6 := number64_spec ho8.1 (by omega)
        have hg := hget ho
        have ht : ns.take (i + 1) = ns.take i ++ [n64 (bz o)] := by rw [List.take_add_one, hg]; rfl
        have hr1 := hnr _ (hmem ho)
        have hr2 := m4 _ (hmem ho)
        have hsub : (n64 (bz o) % 18446744073709551616 - lo % 18446744073709551616) % 18446744073709551616 = n64 (bz o) - lo := by omega
        have hol : ((ns.take i).map fun x => x - lo).length ≤ 65535 := by rw [List.length_map, List.length_take]; omega
        rw [ht, List.map_append, List.map_cons, List.map_nil]
        generalize (ns.take i).map (fun x => x - lo) = out at *
        generalize n64 (bz o) = v at *
        clear ht hg hfl h60 hL hget hmem hns hnr
        simp -implicitDefEqProofs (maxSteps := 4000000) (disch := omega) only [go_sem, go_sem_proc, dr, Nat.min_def, ↓reduceIte, List.length_map, List.getElem?_map, Option.map_some, ho, brow, h6, hsub]
      · have ht : ns.take L.length = ns := by rw [← hnl2]; exact List.take_length
        rw [ht]
        have hW := RWidth_spec (u := (hi - lo).toNat) (by omega)
        have hwl : width (hi - lo).toNat ≤ 64 := width_le (by omega)
        have hP := RPack_spec (n := (width (hi - lo).toNat : Nat)) (l := ns.map fun x => x - lo) (by rw [List.length_map]; omega) hfl
        rw [heldN_nat hwl] at hP
        have hpl := packL_length (width (hi - lo).toNat) (ns.map fun x => x - lo)
        rw [List.length_map, hnl2] at hpl
        have hpm : width (hi - lo).toNat * L.length ≤ 64 * 65535 := Nat.mul_le_mul hwl hl
        have hZ := RefZig_spec m1.1 m1.2
        have hz := zig_r' m1
        have hN := RefNum_sl (zs := [3]) (u := zig lo) (by decide) hz.1 hz.2
        have hn1 := num_len10 hz.1 hz.2
        have hq : [3] ++ num (zig lo) = 3 :: num (zig lo) := rfl
        rw [hq] at hN
        have eW : (((hi - lo).toNat : Nat) : Int) = hi - lo := by omega
        rw [eW] at hW
        have esub : (hi % 18446744073709551616 - lo % 18446744073709551616) % 18446744073709551616 = hi - lo := by omega
        generalize width (hi - lo).toNat = wd at *
        have hw8 : ((wd : Nat) : Int) % 256 = ((wd : Nat) : Int) := by omega
        generalize num (zig lo) = q1 at *
        clear hfl h60 hL hget hmem hns hnr ht
        simp -implicitDefEqProofs (maxSteps := 4000000) (disch := omega) only [go_sem, go_sem_proc, dr, Nat.min_def, ↓reduceIte, List.length_map, esub, hW, hZ, hN, hP, hpl, hw8]
        simp only [List.append_assoc, List.singleton_append]
end Go.Proofs.Ytmaehmacngldbaa.D
