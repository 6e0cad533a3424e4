/- Any column is told by each kind as the document says; any bytes are a column, or none. -/
import Derived.Test.YtojaklgmojmjeaaRef12
namespace Go.Proofs.Ytojaklgmojmjeaa.D
open Go Go.Den
set_option linter.unusedSimpArgs false
set_option linter.unusedVariables false
set_option maxRecDepth 20000
set_option maxHeartbeats 8000000
theorem Decode_bl {o : RB'} {c : Int} (h8 : R8 (bz o)) (hl : (bz o).length ≤ 100000000) : ∃ Y, dw E 8 [bl o, .int .i64 c] [] = some (Y, []) ∧ DecR (decL (bz o) c) Y := by
  cases o with
  | none => exact ⟨_, Decode_nils, rfl⟩
  | some b => exact Decode_any h8 hl
theorem RefDecode_bl {o : RB'} {c : Int} (h8 : R8 (bz o)) (hl : (bz o).length ≤ 100000000) : dw E 17 [bl o, .int .i64 c] [] = some (refDecR (decL (bz o) c), []) := by
  cases o with
  | none => exact RefDecode_nils
  | some b => exact RefDecode_sl h8 hl
theorem At_bl {o : RB'} {c i : Int} (h8 : R8 (bz o)) (hl : (bz o).length ≤ 100000000) : dw E 9 [bl o, .int .i64 c, .int .i64 i] [] = some (atR (atL (bz o) c i), []) := by
  cases o with
  | none =>
    have hD := Decode_nils (c := c)
    show dw E _ [.nils, _, _] _ = some (.tup [.int .i64 0, .bool false], [])
    refine dw_in (fn := Try.f9) rfl body9 (by simp) ?_
    simp -implicitDefEqProofs (maxSteps := 4000000) (disch := omega) only [go_sem, go_sem_proc, dr, Nat.min_def, ↓reduceIte, hD]
  | some b => exact At_any h8 hl
/-- what is read at a place -/
theorem at_cases {b : List Int} {c j : Int} : (decL b c = none ∧ atR (atL b c j) = .tup [.int .i64 0, .bool false]) ∨ (∃ l, decL b c = some l ∧ (((j < 0 ∨ (l.length : Int) ≤ j) ∧ atR (atL b c j) = .tup [.int .i64 0, .bool false]) ∨ (∃ x, 0 ≤ j ∧ j < (l.length : Int) ∧ l[j.toNat]? = some x ∧ atR (atL b c j) = .tup [.int .i64 x, .bool true]))) := by
  unfold atL
  cases hd : decL b c with
  | none => exact .inl ⟨rfl, rfl⟩
  | some l =>
    refine .inr ⟨l, rfl, ?_⟩
    dsimp only
    by_cases hj : j < 0
    · rw [if_pos hj]; exact .inl ⟨.inl hj, rfl⟩
    · rw [if_neg hj]
      cases hg : l[j.toNat]? with
      | none => exact .inl ⟨.inr (by have := List.getElem?_eq_none_iff.1 hg; omega), rfl⟩
      | some x => exact .inr ⟨x, by omega, by have := (List.getElem?_eq_some_iff.1 hg).1; omega, rfl, rfl⟩
theorem IcolTells_spec {l raw : List Int} {how kind at' by' count : Int} (hr : Ri64 l) (hraw : R8 raw) (hby : 0 ≤ by' ∧ by' < 256) :
    dw E 6 [.sl 1 (ints .i64 l), .int .i64 how, .int .i64 kind, .sl 1 (ints .u8 raw), .int .i64 at', .int .u8 by', .int .i64 count] [] = some (.bool true, []) := by
  have hA := awake4
  by_cases h200 : 200 < raw.length
  · refine dw_in (fn := Try.f6) rfl body6 (by simp) ?_
    simp -implicitDefEqProofs (maxSteps := 4000000) (disch := omega) only [go_sem, go_sem_proc, dr, Nat.min_def, ↓reduceIte, hA]
  have hCo := Column_spec (how := how) hr
  have hx := colL_r how hr (m := min l.length 60) (by omega)
  have hxl := colL_len how l (min l.length 60)
  have hxl' : (colL how l (min l.length 60)).length ≤ 60 := by omega
  clear hxl
  generalize colL how l (min l.length 60) = x at *
  have hE := Encode_sl hx (by omega)
  have hRE := RefEncode_spec (.inl rfl) hx (by omega)
  rw [show (x.map fun x => some (tx x)) = TX x from rfl, bstR_enc hx (by omega)] at hRE
  simp only [nilB] at hRE
  have hT := fun k => Tell_spec (k := k) (.inl rfl) hx (by omega)
  have hRT := fun k => RefTell_spec (k := k) (.inl rfl) hx (by omega)
  simp only [show (x.map fun x => some (tx x)) = TX x from rfl, refTell_TX hx] at hRT
  have htf := fun {k : Int} {b : List Int} => tell_facts (k := k) (b := b) hx (by omega)
  have heq := beq_self_eq_true ((encL x).map toU8)
  obtain ⟨L, hL⟩ : ∃ L : Int, (x.length : Int) = L := ⟨_, rfl⟩
  have hL0 : 0 ≤ L ∧ L ≤ 60 := by omega
  generalize encL x = B at *
  refine dw_in (fn := Try.f6) rfl body6 (by simp) ?_
  simp -implicitDefEqProofs (maxSteps := 4000000) (disch := omega) only [go_sem, go_sem_proc, dr, Nat.min_def, ↓reduceIte, hCo, hE, hRE, heq, hL]
  refine ⟨by ((repeat' split) <;> (change _ = true; kernel_rfl)), ?_⟩
  obtain ⟨K, hK⟩ : ∃ K : List Int, K = [1, 2, 3, 4, kind] := ⟨_, rfl⟩
  have hKl : K.length = 5 := by rw [hK]; rfl
  refine runs_for (fun i : Nat => (⟨[(3, .sl 1 (ints .u8 raw)), (4, .int .i64 at'), (5, .int .u8 by'), (6, .int .i64 count), (15, .h 2098112), (52, .h 2100480), (53, .int .i64 5), (54, .int .i64 i)], [(2098112, some ⟨true, .row 2 1 (ints .i64 x)⟩), (2100480, some ⟨true, .row 3 1 (ints .i64 K)⟩)], 1⟩ : St)) 5 ?_ ?_ ?_
  · rw [hK]; clear hT hRT htf; simp -implicitDefEqProofs (maxSteps := 4000000) (disch := omega) only [go_sem, go_sem_proc, dr, Nat.min_def, ↓reduceIte]
  · intro i hi
    obtain ⟨k, hk, _, _⟩ := take_get (l := K) (i := i) (by omega)
    have hTk := hT k
    have hRk := hRT k
    have htk := fun {b : List Int} => htf (k := k) (b := b)
    clear hT hRT htf hK hE hRE heq hCo hr hx
    unfold tellR at hTk
    obtain ⟨Y, hY⟩ : ∃ Y : List RB', Y = (match tellL k x with
      | none => [some raw, none, some [], none, some [by']]
      | some c => [some raw, some c, some (c.set (at' % 65536 % (c.length : Int)).toNat by'), some (c.take (at' % 65536 % (c.length : Int)).toNat), some (c ++ [by'])]) := ⟨_, rfl⟩
    have hYl : Y.length = 5 := by rw [hY]; cases tellL k x <;> rfl
    have hYg : ∀ o ∈ Y, R8 (bz o) ∧ (bz o).length ≤ 4000000 := by
      rw [hY]
      have hb1 : R8 [by'] := fun z hz => by rw [List.mem_singleton.1 hz]; exact hby
      cases hq : tellL k x with
      | none =>
        intro o ho
        simp only [List.mem_cons, List.not_mem_nil, or_false] at ho
        rcases ho with rfl | rfl | rfl | rfl | rfl
        · exact ⟨hraw, by rw [bz_some]; omega⟩
        · exact ⟨fun z hz => by simp [bz_none] at hz, by simp [bz_none]⟩
        · exact ⟨fun z hz => by simp [bz_some] at hz, by simp [bz_some]⟩
        · exact ⟨fun z hz => by simp [bz_none] at hz, by simp [bz_none]⟩
        · exact ⟨hb1, by simp [bz_some]⟩
      | some c =>
        obtain ⟨c1, c2, c3⟩ := htk hq
        intro o ho
        simp only [List.mem_cons, List.not_mem_nil, or_false] at ho
        rcases ho with rfl | rfl | rfl | rfl | rfl
        · exact ⟨hraw, by rw [bz_some]; omega⟩
        · exact ⟨c1, by rw [bz_some]; omega⟩
        · refine ⟨fun z hz => ?_, by rw [bz_some, List.length_set]; omega⟩
          rcases List.mem_or_eq_of_mem_set hz with h | h
          · exact c1 z h
          · rw [h]; exact hby
        · exact ⟨fun z hz => c1 z (List.mem_of_mem_take hz), by rw [bz_some, List.length_take]; omega⟩
        · exact ⟨c1.append hb1, by rw [bz_some, List.length_append]; simp; omega⟩
    cases hq : tellL k x with
    | none =>
      rw [hq] at hTk hRk hY
      simp only [rtellR] at hTk hRk
      have hYm : Y.map brow = [[.sl 1 (ints .u8 raw)], [.nils], [.sl 1 []], [.nils], [.sl 1 (ints .u8 [by'])]] := by rw [hY]; rfl
      have hee : (([] : List UInt8) == []) = true := rfl
      have htb : toBytes [] = some [] := rfl
      clear hY htk hq
      simp -implicitDefEqProofs (maxSteps := 4000000) (disch := omega) only [go_sem, go_sem_proc, dr, Nat.min_def, ↓reduceIte, hk, hTk, hRk, hKl, hee, htb, List.length_nil]
      refine ⟨by ((repeat' split) <;> (change _ = true; kernel_rfl)), ?_⟩
      have hgo : True := trivial
      refine runs_for (fun j : Nat => (⟨[(3, .sl 1 (ints .u8 raw)), (4, .int .i64 at'), (5, .int .u8 by'), (6, .int .i64 count), (15, .h 2098112), (52, .h 2100480), (53, .int .i64 5), (54, .int .i64 i), (107, .h 2104000), (108, .int .i64 5), (109, .int .i64 j)], [(2098112, some ⟨true, .row 2 1 (ints .i64 x)⟩), (2100480, some ⟨true, .row 3 1 (ints .i64 K)⟩), (2104000, some ⟨true, .row 27 1 (Y.map brow)⟩)], 1⟩ : St)) 5 ?_ ?_ ?_
      · rw [hYm]; clear hYm; simp -implicitDefEqProofs (maxSteps := 4000000) (disch := omega) only [go_sem, go_sem_proc, dr, Nat.min_def, ↓reduceIte]
      · intro j hj
        obtain ⟨o, ho, hom, _⟩ := take_get (l := Y) (i := j) (by omega)
        obtain ⟨o1, o2⟩ := hYg o hom
        clear hTk hRk hYg hYm
        obtain ⟨N, hN⟩ : ∃ N : List Int, N = [L, count, count % 64] := ⟨_, rfl⟩
        have hNl : N.length = 3 := by rw [hN]; rfl
        simp -implicitDefEqProofs (maxSteps := 4000000) (disch := omega) only [go_sem, go_sem_proc, dr, Nat.min_def, ↓reduceIte, ho, hYl, List.length_map, List.getElem?_map, Option.map_some, brow, hL]
        try (refine And.intro ?_ ?_; · ((repeat' split) <;> (change _ = true; kernel_rfl)))
        refine runs_for (fun m : Nat => (⟨[(3, .sl 1 (ints .u8 raw)), (4, .int .i64 at'), (5, .int .u8 by'), (6, .int .i64 count), (15, .h 2098112), (25, bl o), (52, .h 2100480), (53, .int .i64 5), (54, .int .i64 i), (107, .h 2104000), (108, .int .i64 5), (109, .int .i64 j), (118, .h 2104704), (119, .int .i64 3), (120, .int .i64 m)], [(2098112, some ⟨true, .row 2 1 (ints .i64 x)⟩), (2100480, some ⟨true, .row 3 1 (ints .i64 K)⟩), (2104000, some ⟨true, .row 27 1 (Y.map brow)⟩), (2104704, some ⟨true, .row 3 1 (ints .i64 N)⟩)], 1⟩ : St)) 3 ?_ ?_ ?_
        · rw [hN]; simp -implicitDefEqProofs (maxSteps := 4000000) (disch := omega) only [go_sem, go_sem_proc, dr, Nat.min_def, ↓reduceIte]
        · intro m hm
          obtain ⟨n, hn, _, _⟩ := take_get (l := N) (i := m) (by omega)
          obtain ⟨Yd, hYd, hDR⟩ := Decode_bl (o := o) (c := n) o1 (by omega)
          have hRD := RefDecode_bl (o := o) (c := n) o1 (by omega)
          have hAt := fun q : Int => At_bl (o := o) (c := n) (i := q) o1 (by omega)
          have hcs := fun q : Int => at_cases (b := bz o) (c := n) (j := q)
          clear o1 hN
          cases hd : decL (bz o) n with
          | none =>
            rw [hd] at hDR hRD
            have hDR : Yd = .tup [.nils, .bool false] := hDR
            subst hDR
            simp only [refDecR] at hRD
            have hS := SameInts_spec (X := .nils) (Y := .sl 1 (ints .i64 [])) (a := []) (b := []) (.inr ⟨rfl, rfl⟩) (.inl rfl) (by simp) (by simp)
            simp only [decide_true] at hS
            have hAn : ∀ q : Int, dw E 9 [bl o, .int .i64 n, .int .i64 q] [] = some (.tup [.int .i64 0, .bool false], []) := fun q => by
              have h := hAt q
              rcases hcs q with ⟨_, e⟩ | ⟨l', e, _⟩
              · rw [e] at h; exact h
              · rw [hd] at e; cases e
            clear hAt hcs hd
            obtain ⟨Q, hQ⟩ : ∃ Q : List Int, Q = [at', at' % 64, -1] := ⟨_, rfl⟩
            have hQl : Q.length = 3 := by rw [hQ]; rfl
            simp -implicitDefEqProofs (maxSteps := 4000000) (disch := omega) only [go_sem, go_sem_proc, dr, Nat.min_def, ↓reduceIte, hn, hNl, hYd, hRD, hS, List.length_nil]
            try (refine And.intro ?_ ?_; · ((repeat' split) <;> (change _ = true; kernel_rfl)))
            refine runs_for (fun q : Nat => (⟨[(3, .sl 1 (ints .u8 raw)), (4, .int .i64 at'), (5, .int .u8 by'), (6, .int .i64 count), (15, .h 2098112), (25, bl o), (27, .int .i64 n), (30, .h 2099072), (31, .bool false), (52, .h 2100480), (53, .int .i64 5), (54, .int .i64 i), (107, .h 2104000), (108, .int .i64 5), (109, .int .i64 j), (118, .h 2104704), (119, .int .i64 3), (120, .int .i64 m), (151, .h 2106816), (152, .int .i64 3), (153, .int .i64 q)], [(2098112, some ⟨true, .row 2 1 (ints .i64 x)⟩), (2099072, some ⟨true, .row 2 1 (ints .i64 [])⟩), (2100480, some ⟨true, .row 3 1 (ints .i64 K)⟩), (2104000, some ⟨true, .row 27 1 (Y.map brow)⟩), (2104704, some ⟨true, .row 3 1 (ints .i64 N)⟩), (2106816, some ⟨true, .row 3 1 (ints .i64 Q)⟩)], 1⟩ : St)) 3 ?_ ?_ ?_
            · rw [hQ]; simp -implicitDefEqProofs (maxSteps := 4000000) (disch := omega) only [go_sem, go_sem_proc, dr, Nat.min_def, ↓reduceIte]
            · intro q hq
              obtain ⟨p, hp, _, _⟩ := take_get (l := Q) (i := q) (by omega)
              have hAp := hAn p
              clear hAn hQ
              simp -implicitDefEqProofs (maxSteps := 4000000) (disch := omega) only [go_sem, go_sem_proc, dr, Nat.min_def, ↓reduceIte, hp, hQl, hAp]
              try ((repeat' split) <;> (change _ = true; kernel_rfl))
            · simp -implicitDefEqProofs (maxSteps := 4000000) (disch := omega) only [go_sem, go_sem_proc, dr, Nat.min_def, ↓reduceIte, hQl]
          | some l =>
            have hll := decL_len hd
            rw [hd] at hDR hRD
            obtain ⟨X, hX, rfl⟩ := hDR
            simp only [refDecR] at hRD
            obtain ⟨W, hW⟩ : ∃ W : Int, (l.length : Int) = W := ⟨_, rfl⟩
            have hW0 : 0 ≤ W ∧ W ≤ 65535 := by omega
            have hAn : ∀ q : Int, ((q < 0 ∨ W ≤ q) ∧ dw E 9 [bl o, .int .i64 n, .int .i64 q] [] = some (.tup [.int .i64 0, .bool false], [])) ∨ (∃ y, 0 ≤ q ∧ q < W ∧ l[q.toNat]? = some y ∧ dw E 9 [bl o, .int .i64 n, .int .i64 q] [] = some (.tup [.int .i64 y, .bool true], [])) := fun q => by
              have h := hAt q
              rcases hcs q with ⟨e, _⟩ | ⟨l', e, h'⟩
              · rw [hd] at e; cases e
              · rw [hd] at e
                injection e with e
                subst e
                rw [← hW]
                rcases h' with ⟨h1, h2⟩ | ⟨y, h1, h2, h3, h4⟩
                · rw [h2] at h; exact .inl ⟨h1, h⟩
                · rw [h4] at h; exact .inr ⟨y, h1, h2, h3, h⟩
            clear hAt hcs hd
            obtain ⟨Q, hQ⟩ : ∃ Q : List Int, Q = [at', at' % 64, W - 1] := ⟨_, rfl⟩
            have hQl : Q.length = 3 := by rw [hQ]; rfl
            have hS1 := SameInts_spec (X := .sl 1 (ints .i64 l)) (Y := .sl 1 (ints .i64 l)) (a := l) (b := l) (.inl rfl) (.inl rfl) (by omega) (by omega)
            have hS2 : l = [] → dw E 13 [.nils, .sl 1 (ints .i64 l)] [] = some (.bool true, []) := fun e => by
              have := SameInts_spec (X := .nils) (Y := .sl 1 (ints .i64 l)) (a := l) (b := l) (.inr ⟨rfl, e⟩) (.inl rfl) (by omega) (by omega)
              simpa using this
            simp only [decide_true] at hS1
            have hX2 : (X = .nr 2 1 (ints .i64 l)) ∨ (X = .nils ∧ dw E 13 [.nils, .sl 1 (ints .i64 l)] [] = some (.bool true, [])) := by
              rcases hX with h | ⟨h, e⟩
              · exact .inl h
              · exact .inr ⟨h, hS2 e⟩
            clear hX hS2
            rcases hX2 with rfl | ⟨rfl, hS2⟩
            simp -implicitDefEqProofs (maxSteps := 4000000) (disch := omega) only [go_sem, go_sem_proc, dr, Nat.min_def, ↓reduceIte, hn, hNl, hYd, hRD, hS1, hW]
            rotate_left
            clear hS1
            simp -implicitDefEqProofs (maxSteps := 4000000) (disch := omega) only [go_sem, go_sem_proc, dr, Nat.min_def, ↓reduceIte, hn, hNl, hYd, hRD, hS2, hW]
            rotate_left
            all_goals try (refine And.intro ?_ ?_; · ((repeat' split) <;> (change _ = true; kernel_rfl)))
            all_goals refine runs_for (fun q : Nat => (⟨[(3, .sl 1 (ints .u8 raw)), (4, .int .i64 at'), (5, .int .u8 by'), (6, .int .i64 count), (15, .h 2098112), (25, bl o), (27, .int .i64 n), (30, .h 2099072), (31, .bool true), (52, .h 2100480), (53, .int .i64 5), (54, .int .i64 i), (107, .h 2104000), (108, .int .i64 5), (109, .int .i64 j), (118, .h 2104704), (119, .int .i64 3), (120, .int .i64 m), (151, .h 2106816), (152, .int .i64 3), (153, .int .i64 q)], [(2098112, some ⟨true, .row 2 1 (ints .i64 x)⟩), (2099072, some ⟨true, .row 2 1 (ints .i64 l)⟩), (2100480, some ⟨true, .row 3 1 (ints .i64 K)⟩), (2104000, some ⟨true, .row 27 1 (Y.map brow)⟩), (2104704, some ⟨true, .row 3 1 (ints .i64 N)⟩), (2106816, some ⟨true, .row 3 1 (ints .i64 Q)⟩)], 1⟩ : St)) 3 ?_ ?_ ?_
            all_goals clear hYd hRD
            case some.inl.refine_1 | some.inr.refine_1 => rw [hQ]; simp -implicitDefEqProofs (maxSteps := 4000000) (disch := omega) only [go_sem, go_sem_proc, dr, Nat.min_def, ↓reduceIte]
            case some.inl.refine_2 | some.inr.refine_2 =>
              intro q hq
              obtain ⟨p, hp, _, _⟩ := take_get (l := Q) (i := q) (by omega)
              rcases hAn p with ⟨h1, h2⟩ | ⟨y, h1, h2, h3, h4⟩
              · clear hAn hQ
                rcases h1 with h1 | h1 <;> simp -implicitDefEqProofs (maxSteps := 4000000) (disch := omega) only [go_sem, go_sem_proc, dr, Nat.min_def, ↓reduceIte, hp, hQl, h2, hW]
                all_goals try ((repeat' split) <;> (change _ = true; kernel_rfl))
              · clear hAn hQ
                simp -implicitDefEqProofs (maxSteps := 4000000) (disch := omega) only [go_sem, go_sem_proc, dr, Nat.min_def, ↓reduceIte, hp, hQl, h4, h3, hW]
                try ((repeat' split) <;> (change _ = true; kernel_rfl))
            case some.inl.refine_3 | some.inr.refine_3 => simp -implicitDefEqProofs (maxSteps := 4000000) (disch := omega) only [go_sem, go_sem_proc, dr, Nat.min_def, ↓reduceIte, hQl]
        · simp -implicitDefEqProofs (maxSteps := 4000000) (disch := omega) only [go_sem, go_sem_proc, dr, Nat.min_def, ↓reduceIte, hNl]
      · simp -implicitDefEqProofs (maxSteps := 4000000) (disch := omega) only [go_sem, go_sem_proc, dr, Nat.min_def, ↓reduceIte, hYl, List.length_map]
    | some c =>
      obtain ⟨c1, c2, c3⟩ := htk hq
      rw [hq] at hTk hRk hY
      simp only [rtellR] at hTk hRk
      obtain ⟨I, hI, hIl⟩ : ∃ I : Nat, at' % 65536 % (c.length : Int) = (I : Int) ∧ I < c.length := by
        have h1 := Int.emod_nonneg (at' % 65536) (b := (c.length : Int)) (by omega)
        have h2 := Int.emod_lt_of_pos (at' % 65536) (b := (c.length : Int)) (by omega)
        exact ⟨(at' % 65536 % (c.length : Int)).toNat, by omega, by omega⟩
      dsimp only at hY
      rw [hI, Int.toNat_natCast] at hY
      have hYm : Y.map brow = [[.sl 1 (ints .u8 raw)], [.sl 1 (ints .u8 c)], [.sl 1 (ints .u8 (c.set I by'))], [.sl 1 (ints .u8 (c.take I))], [.sl 1 (ints .u8 (c ++ [by']))]] := by rw [hY]; rfl
      have hcc := beq_self_eq_true (c.map toU8)
      obtain ⟨z, hz, _, _⟩ := take_get (l := c) (i := I) hIl
      clear hY htk hq c1
      simp -implicitDefEqProofs (maxSteps := 4000000) (disch := omega) only [go_sem, go_sem_proc, dr, Nat.min_def, ↓reduceIte, hk, hTk, hRk, hKl, hcc, hI, hz]
      refine ⟨by ((repeat' split) <;> (change _ = true; kernel_rfl)), ?_⟩
      refine runs_for (fun j : Nat => (⟨[(3, .sl 1 (ints .u8 raw)), (4, .int .i64 at'), (5, .int .u8 by'), (6, .int .i64 count), (15, .h 2098112), (52, .h 2100480), (53, .int .i64 5), (54, .int .i64 i), (107, .h 2104000), (108, .int .i64 5), (109, .int .i64 j)], [(2098112, some ⟨true, .row 2 1 (ints .i64 x)⟩), (2100480, some ⟨true, .row 3 1 (ints .i64 K)⟩), (2104000, some ⟨true, .row 27 1 (Y.map brow)⟩)], 1⟩ : St)) 5 ?_ ?_ ?_
      · rw [hYm]; clear hYm; simp -implicitDefEqProofs (maxSteps := 4000000) (disch := omega) only [go_sem, go_sem_proc, dr, Nat.min_def, ↓reduceIte]
      · intro j hj
        obtain ⟨o, ho, hom, _⟩ := take_get (l := Y) (i := j) (by omega)
        obtain ⟨o1, o2⟩ := hYg o hom
        clear hTk hRk hYg hYm
        obtain ⟨N, hN⟩ : ∃ N : List Int, N = [L, count, count % 64] := ⟨_, rfl⟩
        have hNl : N.length = 3 := by rw [hN]; rfl
        simp -implicitDefEqProofs (maxSteps := 4000000) (disch := omega) only [go_sem, go_sem_proc, dr, Nat.min_def, ↓reduceIte, ho, hYl, List.length_map, List.getElem?_map, Option.map_some, brow, hL]
        try (refine And.intro ?_ ?_; · ((repeat' split) <;> (change _ = true; kernel_rfl)))
        refine runs_for (fun m : Nat => (⟨[(3, .sl 1 (ints .u8 raw)), (4, .int .i64 at'), (5, .int .u8 by'), (6, .int .i64 count), (15, .h 2098112), (25, bl o), (52, .h 2100480), (53, .int .i64 5), (54, .int .i64 i), (107, .h 2104000), (108, .int .i64 5), (109, .int .i64 j), (118, .h 2104704), (119, .int .i64 3), (120, .int .i64 m)], [(2098112, some ⟨true, .row 2 1 (ints .i64 x)⟩), (2100480, some ⟨true, .row 3 1 (ints .i64 K)⟩), (2104000, some ⟨true, .row 27 1 (Y.map brow)⟩), (2104704, some ⟨true, .row 3 1 (ints .i64 N)⟩)], 1⟩ : St)) 3 ?_ ?_ ?_
        · rw [hN]; simp -implicitDefEqProofs (maxSteps := 4000000) (disch := omega) only [go_sem, go_sem_proc, dr, Nat.min_def, ↓reduceIte]
        · intro m hm
          obtain ⟨n, hn, _, _⟩ := take_get (l := N) (i := m) (by omega)
          obtain ⟨Yd, hYd, hDR⟩ := Decode_bl (o := o) (c := n) o1 (by omega)
          have hRD := RefDecode_bl (o := o) (c := n) o1 (by omega)
          have hAt := fun q : Int => At_bl (o := o) (c := n) (i := q) o1 (by omega)
          have hcs := fun q : Int => at_cases (b := bz o) (c := n) (j := q)
          clear o1 hN
          cases hd : decL (bz o) n with
          | none =>
            rw [hd] at hDR hRD
            have hDR : Yd = .tup [.nils, .bool false] := hDR
            subst hDR
            simp only [refDecR] at hRD
            have hS := SameInts_spec (X := .nils) (Y := .sl 1 (ints .i64 [])) (a := []) (b := []) (.inr ⟨rfl, rfl⟩) (.inl rfl) (by simp) (by simp)
            simp only [decide_true] at hS
            have hAn : ∀ q : Int, dw E 9 [bl o, .int .i64 n, .int .i64 q] [] = some (.tup [.int .i64 0, .bool false], []) := fun q => by
              have h := hAt q
              rcases hcs q with ⟨_, e⟩ | ⟨l', e, _⟩
              · rw [e] at h; exact h
              · rw [hd] at e; cases e
            clear hAt hcs hd
            obtain ⟨Q, hQ⟩ : ∃ Q : List Int, Q = [at', at' % 64, -1] := ⟨_, rfl⟩
            have hQl : Q.length = 3 := by rw [hQ]; rfl
            simp -implicitDefEqProofs (maxSteps := 4000000) (disch := omega) only [go_sem, go_sem_proc, dr, Nat.min_def, ↓reduceIte, hn, hNl, hYd, hRD, hS, List.length_nil]
            try (refine And.intro ?_ ?_; · ((repeat' split) <;> (change _ = true; kernel_rfl)))
            refine runs_for (fun q : Nat => (⟨[(3, .sl 1 (ints .u8 raw)), (4, .int .i64 at'), (5, .int .u8 by'), (6, .int .i64 count), (15, .h 2098112), (25, bl o), (27, .int .i64 n), (30, .h 2099072), (31, .bool false), (52, .h 2100480), (53, .int .i64 5), (54, .int .i64 i), (107, .h 2104000), (108, .int .i64 5), (109, .int .i64 j), (118, .h 2104704), (119, .int .i64 3), (120, .int .i64 m), (151, .h 2106816), (152, .int .i64 3), (153, .int .i64 q)], [(2098112, some ⟨true, .row 2 1 (ints .i64 x)⟩), (2099072, some ⟨true, .row 2 1 (ints .i64 [])⟩), (2100480, some ⟨true, .row 3 1 (ints .i64 K)⟩), (2104000, some ⟨true, .row 27 1 (Y.map brow)⟩), (2104704, some ⟨true, .row 3 1 (ints .i64 N)⟩), (2106816, some ⟨true, .row 3 1 (ints .i64 Q)⟩)], 1⟩ : St)) 3 ?_ ?_ ?_
            · rw [hQ]; simp -implicitDefEqProofs (maxSteps := 4000000) (disch := omega) only [go_sem, go_sem_proc, dr, Nat.min_def, ↓reduceIte]
            · intro q hq
              obtain ⟨p, hp, _, _⟩ := take_get (l := Q) (i := q) (by omega)
              have hAp := hAn p
              clear hAn hQ
              simp -implicitDefEqProofs (maxSteps := 4000000) (disch := omega) only [go_sem, go_sem_proc, dr, Nat.min_def, ↓reduceIte, hp, hQl, hAp]
              try ((repeat' split) <;> (change _ = true; kernel_rfl))
            · simp -implicitDefEqProofs (maxSteps := 4000000) (disch := omega) only [go_sem, go_sem_proc, dr, Nat.min_def, ↓reduceIte, hQl]
          | some l =>
            have hll := decL_len hd
            rw [hd] at hDR hRD
            obtain ⟨X, hX, rfl⟩ := hDR
            simp only [refDecR] at hRD
            obtain ⟨W, hW⟩ : ∃ W : Int, (l.length : Int) = W := ⟨_, rfl⟩
            have hW0 : 0 ≤ W ∧ W ≤ 65535 := by omega
            have hAn : ∀ q : Int, ((q < 0 ∨ W ≤ q) ∧ dw E 9 [bl o, .int .i64 n, .int .i64 q] [] = some (.tup [.int .i64 0, .bool false], [])) ∨ (∃ y, 0 ≤ q ∧ q < W ∧ l[q.toNat]? = some y ∧ dw E 9 [bl o, .int .i64 n, .int .i64 q] [] = some (.tup [.int .i64 y, .bool true], [])) := fun q => by
              have h := hAt q
              rcases hcs q with ⟨e, _⟩ | ⟨l', e, h'⟩
              · rw [hd] at e; cases e
              · rw [hd] at e
                injection e with e
                subst e
                rw [← hW]
                rcases h' with ⟨h1, h2⟩ | ⟨y, h1, h2, h3, h4⟩
                · rw [h2] at h; exact .inl ⟨h1, h⟩
                · rw [h4] at h; exact .inr ⟨y, h1, h2, h3, h⟩
            clear hAt hcs hd
            obtain ⟨Q, hQ⟩ : ∃ Q : List Int, Q = [at', at' % 64, W - 1] := ⟨_, rfl⟩
            have hQl : Q.length = 3 := by rw [hQ]; rfl
            have hS1 := SameInts_spec (X := .sl 1 (ints .i64 l)) (Y := .sl 1 (ints .i64 l)) (a := l) (b := l) (.inl rfl) (.inl rfl) (by omega) (by omega)
            have hS2 : l = [] → dw E 13 [.nils, .sl 1 (ints .i64 l)] [] = some (.bool true, []) := fun e => by
              have := SameInts_spec (X := .nils) (Y := .sl 1 (ints .i64 l)) (a := l) (b := l) (.inr ⟨rfl, e⟩) (.inl rfl) (by omega) (by omega)
              simpa using this
            simp only [decide_true] at hS1
            have hX2 : (X = .nr 2 1 (ints .i64 l)) ∨ (X = .nils ∧ dw E 13 [.nils, .sl 1 (ints .i64 l)] [] = some (.bool true, [])) := by
              rcases hX with h | ⟨h, e⟩
              · exact .inl h
              · exact .inr ⟨h, hS2 e⟩
            clear hX hS2
            rcases hX2 with rfl | ⟨rfl, hS2⟩
            simp -implicitDefEqProofs (maxSteps := 4000000) (disch := omega) only [go_sem, go_sem_proc, dr, Nat.min_def, ↓reduceIte, hn, hNl, hYd, hRD, hS1, hW]
            rotate_left
            clear hS1
            simp -implicitDefEqProofs (maxSteps := 4000000) (disch := omega) only [go_sem, go_sem_proc, dr, Nat.min_def, ↓reduceIte, hn, hNl, hYd, hRD, hS2, hW]
            rotate_left
            all_goals try (refine And.intro ?_ ?_; · ((repeat' split) <;> (change _ = true; kernel_rfl)))
            all_goals refine runs_for (fun q : Nat => (⟨[(3, .sl 1 (ints .u8 raw)), (4, .int .i64 at'), (5, .int .u8 by'), (6, .int .i64 count), (15, .h 2098112), (25, bl o), (27, .int .i64 n), (30, .h 2099072), (31, .bool true), (52, .h 2100480), (53, .int .i64 5), (54, .int .i64 i), (107, .h 2104000), (108, .int .i64 5), (109, .int .i64 j), (118, .h 2104704), (119, .int .i64 3), (120, .int .i64 m), (151, .h 2106816), (152, .int .i64 3), (153, .int .i64 q)], [(2098112, some ⟨true, .row 2 1 (ints .i64 x)⟩), (2099072, some ⟨true, .row 2 1 (ints .i64 l)⟩), (2100480, some ⟨true, .row 3 1 (ints .i64 K)⟩), (2104000, some ⟨true, .row 27 1 (Y.map brow)⟩), (2104704, some ⟨true, .row 3 1 (ints .i64 N)⟩), (2106816, some ⟨true, .row 3 1 (ints .i64 Q)⟩)], 1⟩ : St)) 3 ?_ ?_ ?_
            all_goals clear hYd hRD
            case some.inl.refine_1 | some.inr.refine_1 => rw [hQ]; simp -implicitDefEqProofs (maxSteps := 4000000) (disch := omega) only [go_sem, go_sem_proc, dr, Nat.min_def, ↓reduceIte]
            case some.inl.refine_2 | some.inr.refine_2 =>
              intro q hq
              obtain ⟨p, hp, _, _⟩ := take_get (l := Q) (i := q) (by omega)
              rcases hAn p with ⟨h1, h2⟩ | ⟨y, h1, h2, h3, h4⟩
              · clear hAn hQ
                rcases h1 with h1 | h1 <;> simp -implicitDefEqProofs (maxSteps := 4000000) (disch := omega) only [go_sem, go_sem_proc, dr, Nat.min_def, ↓reduceIte, hp, hQl, h2, hW]
                all_goals try ((repeat' split) <;> (change _ = true; kernel_rfl))
              · clear hAn hQ
                simp -implicitDefEqProofs (maxSteps := 4000000) (disch := omega) only [go_sem, go_sem_proc, dr, Nat.min_def, ↓reduceIte, hp, hQl, h4, h3, hW]
                try ((repeat' split) <;> (change _ = true; kernel_rfl))
            case some.inl.refine_3 | some.inr.refine_3 => simp -implicitDefEqProofs (maxSteps := 4000000) (disch := omega) only [go_sem, go_sem_proc, dr, Nat.min_def, ↓reduceIte, hQl]
        · simp -implicitDefEqProofs (maxSteps := 4000000) (disch := omega) only [go_sem, go_sem_proc, dr, Nat.min_def, ↓reduceIte, hNl]
      · simp -implicitDefEqProofs (maxSteps := 4000000) (disch := omega) only [go_sem, go_sem_proc, dr, Nat.min_def, ↓reduceIte, hYl, List.length_map]
  · clear hT hRT htf hK hE hRE heq hCo hr hx
    simp -implicitDefEqProofs (maxSteps := 4000000) (disch := omega) only [go_sem, go_sem_proc, dr, Nat.min_def, ↓reduceIte, hA]
end Go.Proofs.Ytojaklgmojmjeaa.D
