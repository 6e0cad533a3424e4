/- Any column of bytes is told by each kind as the document says; any bytes are a column, or none. -/
import Derived.Test.YtmaehmacngldbaaBcol14b
import Derived.Test.YtmaehmacngldbaaBcol13r
namespace Go.Proofs.Ytmaehmacngldbaa.D
open Go Go.Den
set_option linter.unusedSimpArgs false
set_option linter.unusedVariables false
set_option maxRecDepth 20000
set_option maxHeartbeats 16000000
def ysOf (raw : List Int) (by' at' : Int) : Option (List Int) → List RB'
  | none => [some raw, none, some [], none, some [by']]
  | some c => [some raw, some c, some (c.set (at' % 65536 % (c.length : Int)).toNat by'), some (c.take (at' % 65536 % (c.length : Int)).toNat), some (c ++ [by'])]
theorem opt_cases {α : Type} (o : Option α) : o = none ∨ ∃ c, o = some c := by
  cases o with
  | none => exact .inl rfl
  | some c => exact .inr ⟨c, rfl⟩
theorem imp_of {P Q : Prop} (h : P → Q) (p : P) : Q := h p
theorem Decode_bl {o : RB'} {c : Int} (h8 : R8 (bz o)) (hl : (bz o).length ≤ 100000000) : ∃ Y, dw E 9 [bl o, .int .i64 c] [] = some (Y, []) ∧ DecB (decB (bz o) c) Y := by
  cases o with
  | none => exact ⟨_, Decode_nils, rfl⟩
  | some b => exact Decode_any h8 hl
theorem RDecode_bl {o : RB'} {c : Int} (h8 : R8 (bz o)) (hl : (bz o).length ≤ 100000000) : ∃ Y, dw E 17 [bl o, .int .i64 c] [] = some (Y, []) ∧ GetR (decB (bz o) c) Y := by
  cases o with
  | none => exact ⟨_, RDecode_nils, rfl⟩
  | some b => exact RDecode_sl h8 hl
theorem At_bl {o : RB'} {c i : Int} (h8 : R8 (bz o)) (hl : (bz o).length ≤ 100000000) : ∃ Y, dw E 10 [bl o, .int .i64 c, .int .i64 i] [] = some (Y, []) ∧ AtR (atB' (bz o) c i) Y := by
  cases o with
  | none => exact ⟨_, At_nils, rfl⟩
  | some b => exact At_any h8 hl
/-- what is read at a place -/
theorem at_cases {b : List Int} {c j : Int} : (decB b c = none ∧ atB' b c j = none) ∨ (∃ l, decB b c = some l ∧ (((j < 0 ∨ (l.length : Int) ≤ j) ∧ atB' b c j = none) ∨ (∃ x, 0 ≤ j ∧ j < (l.length : Int) ∧ l[j.toNat]? = some x ∧ atB' b c j = some (bz x)))) := by
  unfold atB'
  cases hd : decB b c with
  | none => exact .inl ⟨rfl, rfl⟩
  | some l =>
    refine .inr ⟨l, rfl, ?_⟩
    dsimp only
    by_cases hj : j < 0
    · rw [if_pos hj]; exact .inl ⟨.inl hj, rfl⟩
    · rw [if_neg hj]
      cases hg : l[j.toNat]? with
      | none => exact .inl ⟨.inr (by have := List.getElem?_eq_none_iff.1 hg; omega), rfl⟩
      | some x => exact .inr ⟨x, by omega, by have := (List.getElem?_eq_some_iff.1 hg).1; omega, rfl, rfl⟩
theorem decB_R8 {b : List Int} {l : List RB'} {c : Int} (h8 : R8 b) (hl : b.length ≤ 100000000) (h : decB b c = some l) : R8L l := by
  by_cases hc : c < 0 ∨ 65535 < c ∨ b = []
  · rw [decB_count hc] at h; cases h
  · cases b with
    | nil => exact absurd (.inr (.inr rfl)) hc
    | cons k zs =>
      obtain ⟨n, rfl⟩ := Int.eq_ofNat_of_zero_le (a := c) (by omega)
      simp only [List.length_cons] at hl
      have hG : GoodR (some zs) := ⟨fun z hz => h8 z (by simp [hz]), by omega⟩
      have := (rawB_good (k := k) (n := n) hG).1
      unfold decB at h
      simp only [Int.toNat_natCast] at h
      split at h
      · split at h
        · injection h with h
          subst h
          exact fun o ho => (this o ho).1
        · cases h
      · cases h
theorem BcolTells_spec {rows : List RB'} {l raw : List Int} {how kind at' by' count : Int} (hr : Raw rows) (hrl : rows.length ≤ 9223372036854775807) (hraw : R8 raw) (hby : 0 ≤ by' ∧ by' < 256) :
    dw E 6 [.sl 1 (rows.map brow), .sl 1 (ints .i64 l), .int .i64 how, .int .i64 kind, .sl 1 (ints .u8 raw), .int .i64 at', .int .u8 by', .int .i64 count] [] = some (.bool true, []) := by
  have hA := awake5
  by_cases h200 : 200 < raw.length
  · refine dw_in (fn := Try.f6) rfl body6 (by simp) ?_
    simp -implicitDefEqProofs (maxSteps := 4000000) (disch := omega) only [go_sem, go_sem_proc, dr, Nat.min_def, ↓reduceIte, hA]
  have hCo := Column_spec (rows := rows) (l := l) (how := how) hrl
  have hx := colB_raw how hr l (m := min l.length 60) (by omega)
  have hxl := colB_len how rows l (min l.length 60)
  have hxl' : (colB how rows l (min l.length 60)).length ≤ 60 := by omega
  clear hxl hrl hr
  generalize colB how rows l (min l.length 60) = x at *
  have hE : (dw E 13 [.sl 1 (x.map brow)] [] = some (.nils, []) ∧ dw E 14 [.sl 1 (x.map brow)] [] = some (.nils, [])) ∨ ∃ B : List Int, dw E 13 [.sl 1 (x.map brow)] [] = some (.nr 5 1 (ints .u8 B), []) ∧ dw E 14 [.sl 1 (x.map brow)] [] = some (.nr 5 1 (ints .u8 B), []) ∧ (B.map toU8 == B.map toU8) = true := by
    have hR := REncode_sl (L := x) (fun o ho => (hx o ho).1) (by omega)
    cases hs : shortO x with
    | false =>
      rw [hs] at hR
      exact .inl ⟨Encode_no hx (by omega) hs, hR⟩
    | true =>
      rw [hs] at hR
      exact .inr ⟨_, Encode_sl (B64_short hx hs) (by omega), hR, beq_self_eq_true _⟩
  obtain ⟨T, hTT⟩ : ∃ T : Int → Option (List Int), ∀ k, T k = if shortO x then refTell false k x else none := ⟨_, fun _ => rfl⟩
  have hT : ∀ k, dw E 15 [.int .i64 k, .sl 1 (x.map brow)] [] = some (rtellR (T k), []) := fun k => by
    have := Tell_spec (k := k) (L := x) (.inl rfl) hx (by omega)
    unfold tellRB at this
    rw [← hTT k] at this
    rw [this]
    cases T k <;> rfl
  have hRT : ∀ k, dw E 16 [.int .i64 k, .sl 1 (x.map brow)] [] = some (rtellR (T k), []) := fun k => by
    have := RTell_spec (k := k) (L := x) (fun o ho => (hx o ho).1) (by omega)
    unfold tellRB at this
    rw [← hTT k] at this
    rw [this]
    cases T k <;> rfl
  have htf : ∀ {k : Int} {b : List Int}, T k = some b → R8 b ∧ 1 ≤ b.length ∧ b.length ≤ 9000001 := fun {k b} h => by
    rw [hTT] at h
    split at h
    · rename_i hs
      exact tell_facts (B64_short hx hs) (by omega) h
    · cases h
  clear hTT hx
  obtain ⟨L, hL⟩ : ∃ L : Int, (x.length : Int) = L := ⟨_, rfl⟩
  have hL0 : 0 ≤ L ∧ L ≤ 60 := by omega
  have hMl : (x.map brow).length = x.length := List.length_map ..
  generalize x.map brow = M at *
  obtain ⟨K, hK⟩ : ∃ K : List Int, K = [1, 2, 3, 4, kind] := ⟨_, rfl⟩
  have hKl : K.length = 5 := by rw [hK]; rfl
  refine dw_in (fn := Try.f6) rfl body6 (by simp) ?_
  have htb : toBytes [] = some [] := rfl
  have hee : (([] : List UInt8) == []) = true := rfl
  apply imp_of
  · intro hstep
    rcases hE with ⟨hE, hRE⟩ | ⟨B, hE, hRE, heq⟩
    · simp -implicitDefEqProofs (maxSteps := 4000000) (disch := omega) only [go_sem, go_sem_proc, dr, Nat.min_def, ↓reduceIte, hCo, hE, hRE, hL, hMl, htb, hee]
      refine ⟨by ((repeat' split) <;> (change _ = true; kernel_rfl)), ?_⟩
      refine runs_for (fun i : Nat => (⟨[(4, .sl 1 (ints .u8 raw)), (5, .int .i64 at'), (6, .int .u8 by'), (7, .int .i64 count), (17, .h 2098240), (55, .h 2100672), (56, .int .i64 5), (57, .int .i64 i)], [(2098240, some ⟨true, .row 28 1 M⟩), (2100672, some ⟨true, .row 3 1 (ints .i64 K)⟩)], 1⟩ : St)) 5 ?_ hstep ?_
      · rw [hK]; clear hT hRT htf; simp -implicitDefEqProofs (maxSteps := 4000000) (disch := omega) only [go_sem, go_sem_proc, dr, Nat.min_def, ↓reduceIte]
      · clear hT hRT htf hK; simp -implicitDefEqProofs (maxSteps := 4000000) (disch := omega) only [go_sem, go_sem_proc, dr, Nat.min_def, ↓reduceIte, hA]
    · simp -implicitDefEqProofs (maxSteps := 4000000) (disch := omega) only [go_sem, go_sem_proc, dr, Nat.min_def, ↓reduceIte, hCo, hE, hRE, heq, hL, hMl]
      refine ⟨by ((repeat' split) <;> (change _ = true; kernel_rfl)), ?_⟩
      refine runs_for (fun i : Nat => (⟨[(4, .sl 1 (ints .u8 raw)), (5, .int .i64 at'), (6, .int .u8 by'), (7, .int .i64 count), (17, .h 2098240), (55, .h 2100672), (56, .int .i64 5), (57, .int .i64 i)], [(2098240, some ⟨true, .row 28 1 M⟩), (2100672, some ⟨true, .row 3 1 (ints .i64 K)⟩)], 1⟩ : St)) 5 ?_ hstep ?_
      · rw [hK]; clear hT hRT htf; simp -implicitDefEqProofs (maxSteps := 4000000) (disch := omega) only [go_sem, go_sem_proc, dr, Nat.min_def, ↓reduceIte]
      · clear hT hRT htf hK; simp -implicitDefEqProofs (maxSteps := 4000000) (disch := omega) only [go_sem, go_sem_proc, dr, Nat.min_def, ↓reduceIte, hA]
  clear hA hE hCo
  intro i hi
  obtain ⟨k, hk, _, _⟩ := take_get (l := K) (i := i) (by omega)
  have hTk := hT k
  have hRk := hRT k
  have htk := fun {b : List Int} => htf (k := k) (b := b)
  clear hT hRT htf hK
  obtain ⟨tk, htkk⟩ : ∃ tk, T k = tk := ⟨_, rfl⟩
  rw [htkk] at hTk hRk
  simp only [htkk] at htk
  clear htkk
  obtain ⟨Y, hY⟩ : ∃ Y : List RB', Y = ysOf raw by' at' tk := ⟨_, rfl⟩
  have hYl : Y.length = 5 := by rw [hY]; cases tk <;> rfl
  have hYg : ∀ o ∈ Y, R8 (bz o) ∧ (bz o).length ≤ 10000000 := by
    rw [hY]
    have hb1 : R8 [by'] := fun z hz => by rw [List.mem_singleton.1 hz]; exact hby
    cases hq : tk with
    | none =>
      intro o ho
      simp only [ysOf, List.mem_cons, List.not_mem_nil, or_false] at ho
      rcases ho with rfl | rfl | rfl | rfl | rfl
      · exact ⟨hraw, by rw [bz_some]; omega⟩
      · exact ⟨fun z hz => by simp [bz_none] at hz, by simp [bz_none]⟩
      · exact ⟨fun z hz => by simp [bz_some] at hz, by simp [bz_some]⟩
      · exact ⟨fun z hz => by simp [bz_none] at hz, by simp [bz_none]⟩
      · exact ⟨hb1, by simp [bz_some]⟩
    | some c =>
      obtain ⟨c1, c2, c3⟩ := htk hq
      intro o ho
      simp only [ysOf, List.mem_cons, List.not_mem_nil, or_false] at ho
      rcases ho with rfl | rfl | rfl | rfl | rfl
      · exact ⟨hraw, by rw [bz_some]; omega⟩
      · exact ⟨c1, by rw [bz_some]; omega⟩
      · refine ⟨fun z hz => ?_, by rw [bz_some, List.length_set]; omega⟩
        rcases List.mem_or_eq_of_mem_set hz with h | h
        · exact c1 z h
        · rw [h]; exact hby
      · exact ⟨fun z hz => c1 z (List.mem_of_mem_take hz), by rw [bz_some, List.length_take]; omega⟩
      · exact ⟨c1.append hb1, by rw [bz_some, List.length_append]; simp; omega⟩
  apply imp_of
  · intro hst2
    rcases opt_cases tk with e | ⟨c, e⟩
    · rw [e] at hTk hRk hY
      simp only [rtellR] at hTk hRk
      have hYm : Y.map brow = [[.sl 1 (ints .u8 raw)], [.nils], [.sl 1 []], [.nils], [.sl 1 (ints .u8 [by'])]] := by rw [hY]; rfl
      simp -implicitDefEqProofs (maxSteps := 4000000) (disch := omega) only [go_sem, go_sem_proc, dr, Nat.min_def, ↓reduceIte, hk, hTk, hRk, hKl, hee, htb, List.length_nil]
      refine ⟨by ((repeat' split) <;> (change _ = true; kernel_rfl)), ?_⟩
      refine runs_for (fun j : Nat => (⟨[(4, .sl 1 (ints .u8 raw)), (5, .int .i64 at'), (6, .int .u8 by'), (7, .int .i64 count), (17, .h 2098240), (55, .h 2100672), (56, .int .i64 5), (57, .int .i64 i), (110, .h 2104192), (111, .int .i64 5), (112, .int .i64 j)], [(2098240, some ⟨true, .row 28 1 M⟩), (2100672, some ⟨true, .row 3 1 (ints .i64 K)⟩), (2104192, some ⟨true, .row 28 1 (Y.map brow)⟩)], 1⟩ : St)) 5 ?_ hst2 ?_
      · rw [hYm]; simp -implicitDefEqProofs (maxSteps := 4000000) (disch := omega) only [go_sem, go_sem_proc, dr, Nat.min_def, ↓reduceIte]
      · simp -implicitDefEqProofs (maxSteps := 4000000) (disch := omega) only [go_sem, go_sem_proc, dr, Nat.min_def, ↓reduceIte, hYl, List.length_map]
    · obtain ⟨c1, c2, c3⟩ := htk e
      rw [e] at hTk hRk hY
      simp only [rtellR] at hTk hRk
      obtain ⟨I, hI, hIl⟩ : ∃ I : Nat, at' % 65536 % (c.length : Int) = (I : Int) ∧ I < c.length := by
        have h1 := Int.emod_nonneg (at' % 65536) (b := (c.length : Int)) (by omega)
        have h2 := Int.emod_lt_of_pos (at' % 65536) (b := (c.length : Int)) (by omega)
        exact ⟨(at' % 65536 % (c.length : Int)).toNat, by omega, by omega⟩
      unfold ysOf at hY
      dsimp only at hY
      rw [hI, Int.toNat_natCast] at hY
      have hYm : Y.map brow = [[.sl 1 (ints .u8 raw)], [.sl 1 (ints .u8 c)], [.sl 1 (ints .u8 (c.set I by'))], [.sl 1 (ints .u8 (c.take I))], [.sl 1 (ints .u8 (c ++ [by']))]] := by rw [hY]; rfl
      have hcc := beq_self_eq_true (c.map toU8)
      obtain ⟨z, hz, _, _⟩ := take_get (l := c) (i := I) hIl
      clear c1
      simp -implicitDefEqProofs (maxSteps := 4000000) (disch := omega) only [go_sem, go_sem_proc, dr, Nat.min_def, ↓reduceIte, hk, hTk, hRk, hKl, hcc, hI, hz]
      refine ⟨by ((repeat' split) <;> (change _ = true; kernel_rfl)), ?_⟩
      refine runs_for (fun j : Nat => (⟨[(4, .sl 1 (ints .u8 raw)), (5, .int .i64 at'), (6, .int .u8 by'), (7, .int .i64 count), (17, .h 2098240), (55, .h 2100672), (56, .int .i64 5), (57, .int .i64 i), (110, .h 2104192), (111, .int .i64 5), (112, .int .i64 j)], [(2098240, some ⟨true, .row 28 1 M⟩), (2100672, some ⟨true, .row 3 1 (ints .i64 K)⟩), (2104192, some ⟨true, .row 28 1 (Y.map brow)⟩)], 1⟩ : St)) 5 ?_ hst2 ?_
      · rw [hYm]; simp -implicitDefEqProofs (maxSteps := 4000000) (disch := omega) only [go_sem, go_sem_proc, dr, Nat.min_def, ↓reduceIte]
      · simp -implicitDefEqProofs (maxSteps := 4000000) (disch := omega) only [go_sem, go_sem_proc, dr, Nat.min_def, ↓reduceIte, hYl, List.length_map]
  clear hTk hRk htk hY
  intro j hj
  obtain ⟨o, ho, hom, _⟩ := take_get (l := Y) (i := j) (by omega)
  obtain ⟨o1, o2⟩ := hYg o hom
  clear hYg
  obtain ⟨N, hN⟩ : ∃ N : List Int, N = [L, count, count % 64] := ⟨_, rfl⟩
  have hNl : N.length = 3 := by rw [hN]; rfl
  simp -implicitDefEqProofs (maxSteps := 4000000) (disch := omega) only [go_sem, go_sem_proc, dr, Nat.min_def, ↓reduceIte, ho, hYl, List.length_map, List.getElem?_map, Option.map_some, brow, hL, hMl]
  try (refine And.intro ?_ ?_; · ((repeat' split) <;> (change _ = true; kernel_rfl)))
  refine runs_for (fun m : Nat => (⟨[(4, .sl 1 (ints .u8 raw)), (5, .int .i64 at'), (6, .int .u8 by'), (7, .int .i64 count), (17, .h 2098240), (27, bl o), (55, .h 2100672), (56, .int .i64 5), (57, .int .i64 i), (110, .h 2104192), (111, .int .i64 5), (112, .int .i64 j), (121, .h 2104896), (122, .int .i64 3), (123, .int .i64 m)], [(2098240, some ⟨true, .row 28 1 M⟩), (2100672, some ⟨true, .row 3 1 (ints .i64 K)⟩), (2104192, some ⟨true, .row 28 1 (Y.map brow)⟩), (2104896, some ⟨true, .row 3 1 (ints .i64 N)⟩)], 1⟩ : St)) 3 ?_ ?_ ?_
  · rw [hN]; simp -implicitDefEqProofs (maxSteps := 4000000) (disch := omega) only [go_sem, go_sem_proc, dr, Nat.min_def, ↓reduceIte]
  · intro m hm
    obtain ⟨n, hn, _, _⟩ := take_get (l := N) (i := m) (by omega)
    obtain ⟨Yd, hYd, hDR⟩ := Decode_bl (o := o) (c := n) o1 (by omega)
    obtain ⟨Yr, hRD, hRR⟩ := RDecode_bl (o := o) (c := n) o1 (by omega)
    have hAt := fun q : Int => At_bl (o := o) (c := n) (i := q) o1 (by omega)
    have hcs := fun q : Int => at_cases (b := bz o) (c := n) (j := q)
    clear hN
    cases hd : decB (bz o) n with
    | none =>
      rw [hd] at hDR hRR
      have hDR : Yd = .tup [.nils, .bool false] := hDR
      have hRR : Yr = .tup [.nils, .bool false] := hRR
      subst hDR
      subst hRR
      have hS := SameRows_nn
      have hAn : ∀ q : Int, dw E 10 [bl o, .int .i64 n, .int .i64 q] [] = some (.tup [.nils, .bool false], []) := fun q => by
        obtain ⟨Z, hZ, hR⟩ := hAt q
        rcases hcs q with ⟨_, e⟩ | ⟨l', e, _⟩
        · rw [e] at hR
          have hR : Z = .tup [.nils, .bool false] := hR
          rw [← hR]; exact hZ
        · rw [hd] at e; cases e
      clear hAt hcs hd o1
      obtain ⟨Q, hQ⟩ : ∃ Q : List Int, Q = [at', at' % 64, -1] := ⟨_, rfl⟩
      have hQl : Q.length = 3 := by rw [hQ]; rfl
      simp -implicitDefEqProofs (maxSteps := 4000000) (disch := omega) only [go_sem, go_sem_proc, dr, Nat.min_def, ↓reduceIte, hn, hNl, hYd, hRD, hS]
      try (refine And.intro ?_ ?_; · ((repeat' split) <;> (change _ = true; kernel_rfl)))
      refine runs_for (fun q : Nat => (⟨[(4, .sl 1 (ints .u8 raw)), (5, .int .i64 at'), (6, .int .u8 by'), (7, .int .i64 count), (17, .h 2098240), (27, bl o), (29, .int .i64 n), (32, .nils), (33, .bool false), (55, .h 2100672), (56, .int .i64 5), (57, .int .i64 i), (110, .h 2104192), (111, .int .i64 5), (112, .int .i64 j), (121, .h 2104896), (122, .int .i64 3), (123, .int .i64 m), (154, .h 2107008), (155, .int .i64 3), (156, .int .i64 q)], [(2098240, some ⟨true, .row 28 1 M⟩), (2100672, some ⟨true, .row 3 1 (ints .i64 K)⟩), (2104192, some ⟨true, .row 28 1 (Y.map brow)⟩), (2104896, some ⟨true, .row 3 1 (ints .i64 N)⟩), (2107008, some ⟨true, .row 3 1 (ints .i64 Q)⟩)], 1⟩ : St)) 3 ?_ ?_ ?_
      · rw [hQ]; simp -implicitDefEqProofs (maxSteps := 4000000) (disch := omega) only [go_sem, go_sem_proc, dr, Nat.min_def, ↓reduceIte]
      · intro q hq
        obtain ⟨p, hp, _, _⟩ := take_get (l := Q) (i := q) (by omega)
        have hAp := hAn p
        clear hAn hQ
        simp -implicitDefEqProofs (maxSteps := 4000000) (disch := omega) only [go_sem, go_sem_proc, dr, Nat.min_def, ↓reduceIte, hp, hQl, hAp]
        try ((repeat' split) <;> (change _ = true; kernel_rfl))
      · simp -implicitDefEqProofs (maxSteps := 4000000) (disch := omega) only [go_sem, go_sem_proc, dr, Nat.min_def, ↓reduceIte, hQl]
    | some l2 =>
      have hll := decB_len hd
      have r8l := decB_R8 o1 (by omega) hd
      rw [hd] at hDR hRR
      obtain ⟨X, l', hX, he, rfl⟩ := hDR
      obtain ⟨X2, hX2, rfl⟩ := hRR
      obtain ⟨W, hW⟩ : ∃ W : Int, (l2.length : Int) = W := ⟨_, rfl⟩
      have hW0 : 0 ≤ W ∧ W ≤ 65535 := by omega
      have hAn : ∀ q : Int, ((q < 0 ∨ W ≤ q) ∧ dw E 10 [bl o, .int .i64 n, .int .i64 q] [] = some (.tup [.nils, .bool false], [])) ∨ (∃ y z : RB', 0 ≤ q ∧ q < W ∧ l2[q.toNat]? = some y ∧ ((bz z).map toU8 == (bz y).map toU8) = true ∧ dw E 10 [bl o, .int .i64 n, .int .i64 q] [] = some (.tup [bl z, .bool true], [])) := fun q => by
        obtain ⟨Z, hZ, hR⟩ := hAt q
        rcases hcs q with ⟨e, _⟩ | ⟨l3, e, h'⟩
        · rw [hd] at e; cases e
        · rw [hd] at e
          injection e with e
          subst e
          rw [← hW]
          rcases h' with ⟨h1, h2⟩ | ⟨y, h1, h2, h3, h4⟩
          · rw [h2] at hR
            have hR : Z = .tup [.nils, .bool false] := hR
            exact .inl ⟨h1, by rw [← hR]; exact hZ⟩
          · rw [h4] at hR
            obtain ⟨z, hz, rfl⟩ := hR
            exact .inr ⟨y, z, h1, h2, h3, by rw [hz]; exact beq_self_eq_true _, hZ⟩
      have r8l' : R8L l' := fun o ho => by
        have : bz o ∈ l2.map bz := by rw [← he]; exact List.mem_map.2 ⟨o, ho, rfl⟩
        obtain ⟨y, hy, e⟩ := List.mem_map.1 this
        rw [← e]; exact r8l y hy
      have hl' := len_of he
      have hS : ∀ A C : PV, IsR A l' → IsR C l2 → dw E 18 [A, C] [] = some (.bool true, []) := fun A C hA hC => SameRows_eq hA hC r8l' r8l (by omega) he
      clear hAt hcs hd r8l r8l' o1
      obtain ⟨Q, hQ⟩ : ∃ Q : List Int, Q = [at', at' % 64, W - 1] := ⟨_, rfl⟩
      have hQl : Q.length = 3 := by rw [hQ]; rfl
      have hLl : (l2.map brow).length = l2.length := List.length_map ..
      have hLg : ∀ {i : Nat} {o : RB'}, l2[i]? = some o → (l2.map brow)[i]? = some [bl o] := fun ho => by simp [ho, brow]
      rcases hX2 with rfl | ⟨rfl, e0⟩
      · have hS1 := hS (.sl 1 (l'.map brow)) (.sl 1 (l2.map brow)) (.inl rfl) (.inl rfl)
        have hS2 : X = .nils → dw E 18 [.nils, .sl 1 (l2.map brow)] [] = some (.bool true, []) := fun e => hS _ _ (by rcases hX with h | h; (rw [h] at e; cases e); exact .inr ⟨rfl, h.2⟩) (.inl rfl)
        clear hS
        generalize hLw : l2.map brow = Lw at *
        generalize hLm : l'.map brow = Lm at *
        apply imp_of
        · intro hst3
          rcases hX with e | ⟨e, e1⟩
          · rw [e, hLm] at hYd
            simp -implicitDefEqProofs (maxSteps := 4000000) (disch := omega) only [go_sem, go_sem_proc, dr, Nat.min_def, ↓reduceIte, hn, hNl, hYd, hRD, hS1, hLl, hW]
            try (refine And.intro ?_ ?_; · ((repeat' split) <;> (change _ = true; kernel_rfl)))
            refine runs_for (fun q : Nat => (⟨[(4, .sl 1 (ints .u8 raw)), (5, .int .i64 at'), (6, .int .u8 by'), (7, .int .i64 count), (17, .h 2098240), (27, bl o), (29, .int .i64 n), (32, .h 2099200), (33, .bool true), (55, .h 2100672), (56, .int .i64 5), (57, .int .i64 i), (110, .h 2104192), (111, .int .i64 5), (112, .int .i64 j), (121, .h 2104896), (122, .int .i64 3), (123, .int .i64 m), (154, .h 2107008), (155, .int .i64 3), (156, .int .i64 q)], [(2098240, some ⟨true, .row 28 1 M⟩), (2099200, some ⟨true, .row 28 1 Lw⟩), (2100672, some ⟨true, .row 3 1 (ints .i64 K)⟩), (2104192, some ⟨true, .row 28 1 (Y.map brow)⟩), (2104896, some ⟨true, .row 3 1 (ints .i64 N)⟩), (2107008, some ⟨true, .row 3 1 (ints .i64 Q)⟩)], 1⟩ : St)) 3 ?_ hst3 ?_
            · rw [hQ]; simp -implicitDefEqProofs (maxSteps := 4000000) (disch := omega) only [go_sem, go_sem_proc, dr, Nat.min_def, ↓reduceIte]
            · simp -implicitDefEqProofs (maxSteps := 4000000) (disch := omega) only [go_sem, go_sem_proc, dr, Nat.min_def, ↓reduceIte, hQl]
          · have hS2 := hS2 e
            rw [e] at hYd
            simp -implicitDefEqProofs (maxSteps := 4000000) (disch := omega) only [go_sem, go_sem_proc, dr, Nat.min_def, ↓reduceIte, hn, hNl, hYd, hRD, hS2, hLl, hW]
            try (refine And.intro ?_ ?_; · ((repeat' split) <;> (change _ = true; kernel_rfl)))
            refine runs_for (fun q : Nat => (⟨[(4, .sl 1 (ints .u8 raw)), (5, .int .i64 at'), (6, .int .u8 by'), (7, .int .i64 count), (17, .h 2098240), (27, bl o), (29, .int .i64 n), (32, .h 2099200), (33, .bool true), (55, .h 2100672), (56, .int .i64 5), (57, .int .i64 i), (110, .h 2104192), (111, .int .i64 5), (112, .int .i64 j), (121, .h 2104896), (122, .int .i64 3), (123, .int .i64 m), (154, .h 2107008), (155, .int .i64 3), (156, .int .i64 q)], [(2098240, some ⟨true, .row 28 1 M⟩), (2099200, some ⟨true, .row 28 1 Lw⟩), (2100672, some ⟨true, .row 3 1 (ints .i64 K)⟩), (2104192, some ⟨true, .row 28 1 (Y.map brow)⟩), (2104896, some ⟨true, .row 3 1 (ints .i64 N)⟩), (2107008, some ⟨true, .row 3 1 (ints .i64 Q)⟩)], 1⟩ : St)) 3 ?_ hst3 ?_
            · rw [hQ]; simp -implicitDefEqProofs (maxSteps := 4000000) (disch := omega) only [go_sem, go_sem_proc, dr, Nat.min_def, ↓reduceIte]
            · simp -implicitDefEqProofs (maxSteps := 4000000) (disch := omega) only [go_sem, go_sem_proc, dr, Nat.min_def, ↓reduceIte, hQl]
        intro q hq
        obtain ⟨p, hp, _, _⟩ := take_get (l := Q) (i := q) (by omega)
        rcases hAn p with ⟨h1, h2⟩ | ⟨y, z, h1, h2, h3, h4, h5⟩
        · clear hAn hLg
          rcases h1 with h1 | h1 <;> simp -implicitDefEqProofs (maxSteps := 4000000) (disch := omega) only [go_sem, go_sem_proc, dr, Nat.min_def, ↓reduceIte, hp, hQl, h2, hLl, hW]
          all_goals try ((repeat' split) <;> (change _ = true; kernel_rfl))
        · have h3 := hLg h3
          clear hAn hLg
          simp -implicitDefEqProofs (maxSteps := 4000000) (disch := omega) only [go_sem, go_sem_proc, dr, Nat.min_def, ↓reduceIte, hp, hQl, h5, h3, h4, hLl, hW]
          try ((repeat' split) <;> (change _ = true; kernel_rfl))
      · subst e0
        have hW1 : W = 0 := hW.symm
        have hl0 : l' = [] := List.length_eq_zero_iff.1 hl'
        subst hl0
        have hS1 := hS (.sl 1 []) .nils (.inl rfl) (.inr ⟨rfl, rfl⟩)
        have hS2 := hS .nils .nils (.inr ⟨rfl, rfl⟩) (.inr ⟨rfl, rfl⟩)
        have hAn : ∀ q : Int, dw E 10 [bl o, .int .i64 n, .int .i64 q] [] = some (.tup [.nils, .bool false], []) := fun q => by
          rcases hAn q with ⟨_, h⟩ | ⟨_, _, h1, h2, _⟩
          · exact h
          · omega
        have hQ : Q = [at', at' % 64, -1] := by rw [hQ, hW1]; rfl
        clear hS hLg hW hW1 hW0 hLl he
        apply imp_of
        · intro hst3
          rcases hX with e | ⟨e, _⟩
          · rw [e] at hYd
            simp -implicitDefEqProofs (maxSteps := 4000000) (disch := omega) only [go_sem, go_sem_proc, dr, Nat.min_def, ↓reduceIte, hn, hNl, hYd, hRD, hS1, List.map_nil, List.length_nil]
            try (refine And.intro ?_ ?_; · ((repeat' split) <;> (change _ = true; kernel_rfl)))
            refine runs_for (fun q : Nat => (⟨[(4, .sl 1 (ints .u8 raw)), (5, .int .i64 at'), (6, .int .u8 by'), (7, .int .i64 count), (17, .h 2098240), (27, bl o), (29, .int .i64 n), (32, .nils), (33, .bool true), (55, .h 2100672), (56, .int .i64 5), (57, .int .i64 i), (110, .h 2104192), (111, .int .i64 5), (112, .int .i64 j), (121, .h 2104896), (122, .int .i64 3), (123, .int .i64 m), (154, .h 2107008), (155, .int .i64 3), (156, .int .i64 q)], [(2098240, some ⟨true, .row 28 1 M⟩), (2100672, some ⟨true, .row 3 1 (ints .i64 K)⟩), (2104192, some ⟨true, .row 28 1 (Y.map brow)⟩), (2104896, some ⟨true, .row 3 1 (ints .i64 N)⟩), (2107008, some ⟨true, .row 3 1 (ints .i64 Q)⟩)], 1⟩ : St)) 3 ?_ hst3 ?_
            · rw [hQ]; simp -implicitDefEqProofs (maxSteps := 4000000) (disch := omega) only [go_sem, go_sem_proc, dr, Nat.min_def, ↓reduceIte]
            · simp -implicitDefEqProofs (maxSteps := 4000000) (disch := omega) only [go_sem, go_sem_proc, dr, Nat.min_def, ↓reduceIte, hQl]
          · rw [e] at hYd
            simp -implicitDefEqProofs (maxSteps := 4000000) (disch := omega) only [go_sem, go_sem_proc, dr, Nat.min_def, ↓reduceIte, hn, hNl, hYd, hRD, hS2]
            try (refine And.intro ?_ ?_; · ((repeat' split) <;> (change _ = true; kernel_rfl)))
            refine runs_for (fun q : Nat => (⟨[(4, .sl 1 (ints .u8 raw)), (5, .int .i64 at'), (6, .int .u8 by'), (7, .int .i64 count), (17, .h 2098240), (27, bl o), (29, .int .i64 n), (32, .nils), (33, .bool true), (55, .h 2100672), (56, .int .i64 5), (57, .int .i64 i), (110, .h 2104192), (111, .int .i64 5), (112, .int .i64 j), (121, .h 2104896), (122, .int .i64 3), (123, .int .i64 m), (154, .h 2107008), (155, .int .i64 3), (156, .int .i64 q)], [(2098240, some ⟨true, .row 28 1 M⟩), (2100672, some ⟨true, .row 3 1 (ints .i64 K)⟩), (2104192, some ⟨true, .row 28 1 (Y.map brow)⟩), (2104896, some ⟨true, .row 3 1 (ints .i64 N)⟩), (2107008, some ⟨true, .row 3 1 (ints .i64 Q)⟩)], 1⟩ : St)) 3 ?_ hst3 ?_
            · rw [hQ]; simp -implicitDefEqProofs (maxSteps := 4000000) (disch := omega) only [go_sem, go_sem_proc, dr, Nat.min_def, ↓reduceIte]
            · simp -implicitDefEqProofs (maxSteps := 4000000) (disch := omega) only [go_sem, go_sem_proc, dr, Nat.min_def, ↓reduceIte, hQl]
        intro q hq
        obtain ⟨p, hp, _, _⟩ := take_get (l := Q) (i := q) (by omega)
        have hAp := hAn p
        clear hAn
        by_cases hp0 : p < 0
        · simp -implicitDefEqProofs (maxSteps := 4000000) (disch := omega) only [go_sem, go_sem_proc, dr, Nat.min_def, ↓reduceIte, hp, hQl, hAp]
          try ((repeat' split) <;> (change _ = true; kernel_rfl))
        · simp -implicitDefEqProofs (maxSteps := 4000000) (disch := omega) only [go_sem, go_sem_proc, dr, Nat.min_def, ↓reduceIte, hp, hQl, hAp]
          try ((repeat' split) <;> (change _ = true; kernel_rfl))
  · simp -implicitDefEqProofs (maxSteps := 4000000) (disch := omega) only [go_sem, go_sem_proc, dr, Nat.min_def, ↓reduceIte, hNl]
end Go.Proofs.Ytmaehmacngldbaa.D
