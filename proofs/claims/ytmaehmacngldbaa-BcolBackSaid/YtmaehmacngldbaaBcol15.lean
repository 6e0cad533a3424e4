/- Columns of bytes are read as they were told. -/
import Derived.Test.YtmaehmacngldbaaBcol14b
namespace Go.Proofs.Ytmaehmacngldbaa.D
open Go Go.Den
set_option linter.unusedSimpArgs false
set_option linter.unusedVariables false
set_option maxRecDepth 20000
set_option maxHeartbeats 8000000
/-- the walk of the law's first loop: are all short? -/
theorem BcolBack_spec {rows : List RB'} {l : List Int} {how : Int} (hr : Raw rows) (hrl : rows.length ≤ 9223372036854775807) : dw E 7 [.sl 1 (rows.map brow), .sl 1 (ints .i64 l), .int .i64 how] [] = some (.bool true, []) := by
  have hCo := Column_spec (rows := rows) (l := l) (how := how) hrl
  have hx := colB_raw how hr l (m := min l.length 60) (by omega)
  have hxl := colB_len how rows l (min l.length 60)
  have hxl' : (colB how rows l (min l.length 60)).length ≤ 60 := by omega
  clear hxl
  generalize colB how rows l (min l.length 60) = x at *
  have hA := awake5
  have hgx : ∀ {i : Nat} {o : RB'}, x[i]? = some o → (x.map brow)[i]? = some [bl o] := fun ho => by simp [ho, brow]
  have hlx : (x.map brow).length = x.length := List.length_map ..
  refine dw_in (fn := Try.f7) rfl body7 (by simp) ?_
  simp -implicitDefEqProofs (maxSteps := 4000000) (disch := omega) only [go_sem, go_sem_proc, dr, Nat.min_def, ↓reduceIte, hCo]
  have L0 : True := trivial
  by_cases hs : shortO x = true
  · have hB : B64 x := B64_short hx hs
    have hE := Encode_sl hB (by omega)
    obtain ⟨k, k1, k4, hk, hbest⟩ := bestB (L := x) (by omega)
    obtain ⟨f1, f2, f3⟩ := tell_facts hB (by omega) hk
    obtain ⟨z, hz⟩ := tell_kind hk
    obtain ⟨X, l', hX, he, hD⟩ := round_trip hB (by omega) hk
    obtain ⟨L, hL⟩ : ∃ L : Int, (x.length : Int) = L := ⟨_, rfl⟩
    have hL0 : 0 ≤ L ∧ L ≤ 60 := by omega
    have r8x : R8L x := fun o ho => (hx o ho).1
    have hSame : ∀ (X : PV) (l' : List RB'), IsOB X l' → l'.map bz = x.map bz → (X = .nr 28 1 (l'.map brow) ∧ (l'.map brow).length = l'.length ∧ dw E 18 [.sl 1 (x.map brow), .sl 1 (l'.map brow)] [] = some (.bool true, [])) ∨ (X = .nils ∧ dw E 18 [.sl 1 (x.map brow), .nils] [] = some (.bool true, [])) := by
      intro X l' hX he
      have r8l : R8L l' := fun o ho => by
        have : bz o ∈ x.map bz := by rw [← he]; exact List.mem_map.2 ⟨o, ho, rfl⟩
        obtain ⟨y, hy, e⟩ := List.mem_map.1 this
        rw [← e]; exact r8x y hy
      rcases hX with rfl | ⟨rfl, rfl⟩
      · exact .inl ⟨rfl, List.length_map .., SameRows_eq (.inl rfl) (.inl rfl) r8x r8l (by omega) he.symm⟩
      · exact .inr ⟨rfl, SameRows_eq (.inl rfl) (.inr ⟨rfl, rfl⟩) r8x r8l (by omega) he.symm⟩
    have hAt : ∀ (i : Nat) (o : RB'), x[i]? = some o → ∃ q : RB', bz q = bz o ∧ R8 (bz o) ∧ dw E 10 [.sl 1 (ints .u8 (refBest false x)), .int .i64 L, .int .i64 i] [] = some (.tup [bl q, .bool true], []) := by
      intro i o ho
      obtain ⟨Y, hY, hA2⟩ := At_any (c := L) (i := i) f1 (by omega)
      have e : atB' (refBest false x) L i = some (bz o) := by
        unfold atB'
        rw [← hL, decB_tell hs hk]
        simp only [Int.toNat_natCast]
        rw [if_neg (by omega), List.getElem?_map, ho]
        rfl
      rw [e] at hA2
      obtain ⟨q, hq, rfl⟩ := hA2
      exact ⟨q, hq, (hx o (List.mem_of_getElem? ho)).1, hY⟩
    have hR4 : ∀ k' : Int, (k' = 1 ∨ k' = 2 ∨ k' = 4) → ∃ c X l', IsOB X l' ∧ l'.map bz = x.map bz ∧ dw E 15 [.int .i64 k', .sl 1 (x.map brow)] [] = some (.tup [.nr 5 1 (ints .u8 (k' :: c)), .bool true], []) ∧
        dw E 9 [.sl 1 (ints .u8 (k' :: c)), .int .i64 L] [] = some (.tup [X, .bool true], []) ∧ (refBest false x).length ≤ c.length + 1 ∧ (c.length + 1 = (refBest false x).length → k ≤ k') ∧ c.length ≤ 9000001 := by
      intro k' h1
      obtain ⟨b, hb⟩ := tell_some (L := x) (by omega) h1
      obtain ⟨c, rfl⟩ := tell_kind hb
      obtain ⟨X', l', hX', he', hD'⟩ := round_trip hB (by omega) hb
      obtain ⟨b1, b2⟩ := hbest _ _ hb
      obtain ⟨t1, t2, t3⟩ := tell_facts hB (by omega) hb
      rw [hL] at hD'
      have hT := Tell_spec (k := k') (L := x) (.inl rfl) (fun o ho => ⟨(hx o ho).1, (hx o ho).2⟩) (by omega)
      unfold tellRB at hT
      rw [hs, if_pos rfl, hb] at hT
      simp only [List.length_cons] at b1 b2 t3
      exact ⟨c, X', l', hX', he', hT, hD', b1, b2, by omega⟩
    rw [hL] at hD
    have hS := hSame X l' hX he
    have hzl := congrArg List.length hz
    simp only [List.length_cons] at hzl
    have hshort : ∀ (i : Nat) o, x[i]? = some o → (bz o).length ≤ 64 := fun i o ho => (hB o (List.mem_of_getElem? ho)).2
    clear hbest f1 hk hB hrl hx hr he hX r8x hs hCo
    generalize refBest false x = B at *
    subst hz
    generalize x.map brow = M at *
    refine runs_for (fun i : Nat => (⟨[(7, .sl 1 M), (26, .sl 1 M), (27, .int .i64 x.length), (28, .int .i64 i)], [], 1⟩ : St)) x.length ?_ ?_ ?_
    · simp -implicitDefEqProofs (maxSteps := 4000000) (disch := omega) only [go_sem, go_sem_proc, dr, Nat.min_def, ↓reduceIte, hlx]
    · intro i hi
      obtain ⟨o, ho, hm, ht⟩ := take_get hi
      have hgo := hgx ho
      have hsm := hshort i o ho
      clear hshort hR4 hAt hSame hS hD hE hgx
      obtain ⟨n, hn⟩ : ∃ n : Int, ((bz o).length : Int) = n := ⟨_, rfl⟩
      have hb : n ≤ 64 := by omega
      clear hsm
      simp -implicitDefEqProofs (maxSteps := 4000000) (disch := omega) only [go_sem, go_sem_proc, dr, Nat.min_def, ↓reduceIte, hgo, hlx, hn]
    · clear hshort
      rcases hS with ⟨rfl, hlen', hSY⟩ | ⟨rfl, hSY⟩
      · obtain ⟨fb, hfb⟩ : ∃ fb, ((l'.map brow).any fun x => x.any sharesP) = fb := ⟨_, rfl⟩
        cases fb
        · simp -implicitDefEqProofs (maxSteps := 4000000) (disch := omega) only [go_sem, go_sem_proc, dr, Nat.min_def, ↓reduceIte, hE, hlx, hL, hD, hSY, hfb]
          try (refine And.intro ?_ ?_; · ((repeat' split) <;> (change _ = true; kernel_rfl)))
          refine runs_for (fun i : Nat => (⟨[(7, .sl 1 M), (10, .h 2097792), (54, .h 2100608), (55, .int .i64 3), (56, .int .i64 i)], [(2097792, some ⟨true, .row 5 1 (ints .u8 (k :: z))⟩), (2100608, some ⟨true, .row 3 1 (ints .i64 [1, 2, 4])⟩)], 1⟩ : St)) 3 ?_ ?_ ?_
          case refine_1 => simp -implicitDefEqProofs (maxSteps := 4000000) (disch := omega) only [go_sem, go_sem_proc, dr, Nat.min_def, ↓reduceIte]
          case refine_2 =>
            clear hSY hD hE hAt
            intro i hi
            obtain rfl | rfl | rfl : i = 0 ∨ i = 1 ∨ i = 2 := by omega
            · obtain ⟨c, X, l2, hX, he, hT, hD, b1, b2, b3⟩ := hR4 1 (by decide)
              simp only [List.length_cons] at b1 b2
              have b1 : z.length ≤ c.length := by omega
              have b2 : c.length = z.length → k ≤ 1 := fun h => b2 (by omega)
              have hSX := hSame X l2 hX he
              clear hR4 hSame hX he
              rcases Nat.lt_or_eq_of_le b1 with hcz | hcz
              · clear b2
                rcases hSX with ⟨rfl, _, hSY⟩ | ⟨rfl, hSY⟩
                · obtain ⟨fb, hfb⟩ : ∃ fb, ((l2.map brow).any fun x => x.any sharesP) = fb := ⟨_, rfl⟩
                  cases fb <;> simp -implicitDefEqProofs (maxSteps := 4000000) (disch := omega) only [go_sem, go_sem_proc, dr, Nat.min_def, ↓reduceIte, hT, hD, hSY, hlx, hL, hfb, List.length_cons] <;> ((repeat' split) <;> (change _ = true; kernel_rfl))
                · simp -implicitDefEqProofs (maxSteps := 4000000) (disch := omega) only [go_sem, go_sem_proc, dr, Nat.min_def, ↓reduceIte, hT, hD, hSY, hlx, hL, List.length_cons] <;> ((repeat' split) <;> (change _ = true; kernel_rfl))
              · have b2 := b2 hcz.symm
                have hcz : (c.length : Int) = (z.length : Int) := by omega
                rcases hSX with ⟨rfl, _, hSY⟩ | ⟨rfl, hSY⟩
                · obtain ⟨fb, hfb⟩ : ∃ fb, ((l2.map brow).any fun x => x.any sharesP) = fb := ⟨_, rfl⟩
                  cases fb <;> simp -implicitDefEqProofs (maxSteps := 4000000) (disch := omega) only [go_sem, go_sem_proc, dr, Nat.min_def, ↓reduceIte, hT, hD, hSY, hlx, hL, hcz, hfb, List.length_cons] <;> ((repeat' split) <;> (change _ = true; kernel_rfl))
                · simp -implicitDefEqProofs (maxSteps := 4000000) (disch := omega) only [go_sem, go_sem_proc, dr, Nat.min_def, ↓reduceIte, hT, hD, hSY, hlx, hL, hcz, List.length_cons] <;> ((repeat' split) <;> (change _ = true; kernel_rfl))
            · obtain ⟨c, X, l2, hX, he, hT, hD, b1, b2, b3⟩ := hR4 2 (by decide)
              simp only [List.length_cons] at b1 b2
              have b1 : z.length ≤ c.length := by omega
              have b2 : c.length = z.length → k ≤ 2 := fun h => b2 (by omega)
              have hSX := hSame X l2 hX he
              clear hR4 hSame hX he
              rcases Nat.lt_or_eq_of_le b1 with hcz | hcz
              · clear b2
                rcases hSX with ⟨rfl, _, hSY⟩ | ⟨rfl, hSY⟩
                · obtain ⟨fb, hfb⟩ : ∃ fb, ((l2.map brow).any fun x => x.any sharesP) = fb := ⟨_, rfl⟩
                  cases fb <;> simp -implicitDefEqProofs (maxSteps := 4000000) (disch := omega) only [go_sem, go_sem_proc, dr, Nat.min_def, ↓reduceIte, hT, hD, hSY, hlx, hL, hfb, List.length_cons] <;> ((repeat' split) <;> (change _ = true; kernel_rfl))
                · simp -implicitDefEqProofs (maxSteps := 4000000) (disch := omega) only [go_sem, go_sem_proc, dr, Nat.min_def, ↓reduceIte, hT, hD, hSY, hlx, hL, List.length_cons] <;> ((repeat' split) <;> (change _ = true; kernel_rfl))
              · have b2 := b2 hcz.symm
                have hcz : (c.length : Int) = (z.length : Int) := by omega
                rcases hSX with ⟨rfl, _, hSY⟩ | ⟨rfl, hSY⟩
                · obtain ⟨fb, hfb⟩ : ∃ fb, ((l2.map brow).any fun x => x.any sharesP) = fb := ⟨_, rfl⟩
                  cases fb <;> simp -implicitDefEqProofs (maxSteps := 4000000) (disch := omega) only [go_sem, go_sem_proc, dr, Nat.min_def, ↓reduceIte, hT, hD, hSY, hlx, hL, hcz, hfb, List.length_cons] <;> ((repeat' split) <;> (change _ = true; kernel_rfl))
                · simp -implicitDefEqProofs (maxSteps := 4000000) (disch := omega) only [go_sem, go_sem_proc, dr, Nat.min_def, ↓reduceIte, hT, hD, hSY, hlx, hL, hcz, List.length_cons] <;> ((repeat' split) <;> (change _ = true; kernel_rfl))
            · obtain ⟨c, X, l2, hX, he, hT, hD, b1, b2, b3⟩ := hR4 4 (by decide)
              simp only [List.length_cons] at b1 b2
              have b1 : z.length ≤ c.length := by omega
              have b2 : c.length = z.length → k ≤ 4 := fun h => b2 (by omega)
              have hSX := hSame X l2 hX he
              clear hR4 hSame hX he
              rcases Nat.lt_or_eq_of_le b1 with hcz | hcz
              · clear b2
                rcases hSX with ⟨rfl, _, hSY⟩ | ⟨rfl, hSY⟩
                · obtain ⟨fb, hfb⟩ : ∃ fb, ((l2.map brow).any fun x => x.any sharesP) = fb := ⟨_, rfl⟩
                  cases fb <;> simp -implicitDefEqProofs (maxSteps := 4000000) (disch := omega) only [go_sem, go_sem_proc, dr, Nat.min_def, ↓reduceIte, hT, hD, hSY, hlx, hL, hfb, List.length_cons] <;> ((repeat' split) <;> (change _ = true; kernel_rfl))
                · simp -implicitDefEqProofs (maxSteps := 4000000) (disch := omega) only [go_sem, go_sem_proc, dr, Nat.min_def, ↓reduceIte, hT, hD, hSY, hlx, hL, List.length_cons] <;> ((repeat' split) <;> (change _ = true; kernel_rfl))
              · have b2 := b2 hcz.symm
                have hcz : (c.length : Int) = (z.length : Int) := by omega
                rcases hSX with ⟨rfl, _, hSY⟩ | ⟨rfl, hSY⟩
                · obtain ⟨fb, hfb⟩ : ∃ fb, ((l2.map brow).any fun x => x.any sharesP) = fb := ⟨_, rfl⟩
                  cases fb <;> simp -implicitDefEqProofs (maxSteps := 4000000) (disch := omega) only [go_sem, go_sem_proc, dr, Nat.min_def, ↓reduceIte, hT, hD, hSY, hlx, hL, hcz, hfb, List.length_cons] <;> ((repeat' split) <;> (change _ = true; kernel_rfl))
                · simp -implicitDefEqProofs (maxSteps := 4000000) (disch := omega) only [go_sem, go_sem_proc, dr, Nat.min_def, ↓reduceIte, hT, hD, hSY, hlx, hL, hcz, List.length_cons] <;> ((repeat' split) <;> (change _ = true; kernel_rfl))
          case refine_3 =>
            clear hSY hD hE hR4 hSame
            simp -implicitDefEqProofs (maxSteps := 4000000) (disch := omega) only [go_sem, go_sem_proc, dr, Nat.min_def, ↓reduceIte, hL, hlx]
            refine runs_any (fun a : Nat × Bool => (match a.2 with | false => ⟨[(7, .sl 1 M), (10, .h 2097792), (115, .int .i64 L), (116, .int .i64 a.1)], [(2097792, some ⟨true, .row 5 1 (ints .u8 (k :: z))⟩)], 1⟩ | true => ⟨[(7, .sl 1 M), (10, .sl 1 (ints .u8 (k :: z))), (115, .int .i64 L), (116, .int .i64 a.1)], [], 1⟩ : St)) (fun a => x.length - a.1) (0, false) (fun a => a.1 ≤ x.length) (Nat.zero_le _) ?_ ?_
            · simp -implicitDefEqProofs (maxSteps := 4000000) (disch := omega) only [go_sem, go_sem_proc, dr, Nat.min_def, ↓reduceIte, hL, hlx]
            · rintro ⟨i, fr⟩ hi
              dsimp only at hi
              rcases Nat.lt_or_eq_of_le hi with hi | hi
              · obtain ⟨y, hy, _, _⟩ := take_get hi
                obtain ⟨q, hq, r8, hA2⟩ := hAt i y hy
                have hgy := hgx hy
                have hiL : (i : Int) < L := by omega
                have hqq := toU8_beq (a := bz q) (b := bz y) (by rw [hq]; exact r8) r8
                rw [decide_eq_true hq] at hqq
                clear hAt hgx hq hy
                have hi1 : i + 1 ≤ x.length := hi
                have hm : x.length - (i + 1) < x.length - i := by omega
                cases fr
                · cases q with
                  | none =>
                    simp only [blB_none, bz_none, List.map_nil] at hA2 hqq
                    have htb : toBytes [] = some [] := rfl
                    simp -implicitDefEqProofs (maxSteps := 4000000) (disch := omega) only [go_sem, go_sem_proc, dr, Nat.min_def, ↓reduceIte, hL, hlx, hA2, hgy, hqq, htb]
                    exact ⟨by ((repeat' split) <;> (change _ = true; kernel_rfl)), (i + 1, false), rfl, hi1, hm⟩
                  | some q =>
                    simp only [blB_some, bz_some] at hA2 hqq
                    simp -implicitDefEqProofs (maxSteps := 4000000) (disch := omega) only [go_sem, go_sem_proc, dr, Nat.min_def, ↓reduceIte, hL, hlx, hA2, hgy, hqq]
                    exact ⟨by ((repeat' split) <;> (change _ = true; kernel_rfl)), (i + 1, true), rfl, hi1, hm⟩
                · simp -implicitDefEqProofs (maxSteps := 4000000) (disch := omega) only [go_sem, go_sem_proc, dr, Nat.min_def, ↓reduceIte, hL, hlx, hA2, hgy, hqq]
                  exact ⟨by ((repeat' split) <;> (change _ = true; kernel_rfl)), (i + 1, true), rfl, hi1, hm⟩
              · have hi : (i : Int) = L := by omega
                clear hAt hgx
                cases fr <;> simp -implicitDefEqProofs (maxSteps := 4000000) (disch := omega) only [go_sem, go_sem_proc, dr, Nat.min_def, ↓reduceIte, hi, hL, hA]
        · simp -implicitDefEqProofs (maxSteps := 4000000) (disch := omega) only [go_sem, go_sem_proc, dr, Nat.min_def, ↓reduceIte, hE, hlx, hL, hD, hSY, hfb]
          try (refine And.intro ?_ ?_; · ((repeat' split) <;> (change _ = true; kernel_rfl)))
          refine runs_for (fun i : Nat => (⟨[(7, .sl 1 M), (10, .sl 1 (ints .u8 (k :: z))), (54, .h 2100608), (55, .int .i64 3), (56, .int .i64 i)], [(2100608, some ⟨true, .row 3 1 (ints .i64 [1, 2, 4])⟩)], 1⟩ : St)) 3 ?_ ?_ ?_
          case refine_1 => simp -implicitDefEqProofs (maxSteps := 4000000) (disch := omega) only [go_sem, go_sem_proc, dr, Nat.min_def, ↓reduceIte]
          case refine_2 =>
            clear hSY hD hE hAt
            intro i hi
            obtain rfl | rfl | rfl : i = 0 ∨ i = 1 ∨ i = 2 := by omega
            · obtain ⟨c, X, l2, hX, he, hT, hD, b1, b2, b3⟩ := hR4 1 (by decide)
              simp only [List.length_cons] at b1 b2
              have b1 : z.length ≤ c.length := by omega
              have b2 : c.length = z.length → k ≤ 1 := fun h => b2 (by omega)
              have hSX := hSame X l2 hX he
              clear hR4 hSame hX he
              rcases Nat.lt_or_eq_of_le b1 with hcz | hcz
              · clear b2
                rcases hSX with ⟨rfl, _, hSY⟩ | ⟨rfl, hSY⟩
                · obtain ⟨fb, hfb⟩ : ∃ fb, ((l2.map brow).any fun x => x.any sharesP) = fb := ⟨_, rfl⟩
                  cases fb <;> simp -implicitDefEqProofs (maxSteps := 4000000) (disch := omega) only [go_sem, go_sem_proc, dr, Nat.min_def, ↓reduceIte, hT, hD, hSY, hlx, hL, hfb, List.length_cons] <;> ((repeat' split) <;> (change _ = true; kernel_rfl))
                · simp -implicitDefEqProofs (maxSteps := 4000000) (disch := omega) only [go_sem, go_sem_proc, dr, Nat.min_def, ↓reduceIte, hT, hD, hSY, hlx, hL, List.length_cons] <;> ((repeat' split) <;> (change _ = true; kernel_rfl))
              · have b2 := b2 hcz.symm
                have hcz : (c.length : Int) = (z.length : Int) := by omega
                rcases hSX with ⟨rfl, _, hSY⟩ | ⟨rfl, hSY⟩
                · obtain ⟨fb, hfb⟩ : ∃ fb, ((l2.map brow).any fun x => x.any sharesP) = fb := ⟨_, rfl⟩
                  cases fb <;> simp -implicitDefEqProofs (maxSteps := 4000000) (disch := omega) only [go_sem, go_sem_proc, dr, Nat.min_def, ↓reduceIte, hT, hD, hSY, hlx, hL, hcz, hfb, List.length_cons] <;> ((repeat' split) <;> (change _ = true; kernel_rfl))
                · simp -implicitDefEqProofs (maxSteps := 4000000) (disch := omega) only [go_sem, go_sem_proc, dr, Nat.min_def, ↓reduceIte, hT, hD, hSY, hlx, hL, hcz, List.length_cons] <;> ((repeat' split) <;> (change _ = true; kernel_rfl))
            · obtain ⟨c, X, l2, hX, he, hT, hD, b1, b2, b3⟩ := hR4 2 (by decide)
              simp only [List.length_cons] at b1 b2
              have b1 : z.length ≤ c.length := by omega
              have b2 : c.length = z.length → k ≤ 2 := fun h => b2 (by omega)
              have hSX := hSame X l2 hX he
              clear hR4 hSame hX he
              rcases Nat.lt_or_eq_of_le b1 with hcz | hcz
              · clear b2
                rcases hSX with ⟨rfl, _, hSY⟩ | ⟨rfl, hSY⟩
                · obtain ⟨fb, hfb⟩ : ∃ fb, ((l2.map brow).any fun x => x.any sharesP) = fb := ⟨_, rfl⟩
                  cases fb <;> simp -implicitDefEqProofs (maxSteps := 4000000) (disch := omega) only [go_sem, go_sem_proc, dr, Nat.min_def, ↓reduceIte, hT, hD, hSY, hlx, hL, hfb, List.length_cons] <;> ((repeat' split) <;> (change _ = true; kernel_rfl))
                · simp -implicitDefEqProofs (maxSteps := 4000000) (disch := omega) only [go_sem, go_sem_proc, dr, Nat.min_def, ↓reduceIte, hT, hD, hSY, hlx, hL, List.length_cons] <;> ((repeat' split) <;> (change _ = true; kernel_rfl))
              · have b2 := b2 hcz.symm
                have hcz : (c.length : Int) = (z.length : Int) := by omega
                rcases hSX with ⟨rfl, _, hSY⟩ | ⟨rfl, hSY⟩
                · obtain ⟨fb, hfb⟩ : ∃ fb, ((l2.map brow).any fun x => x.any sharesP) = fb := ⟨_, rfl⟩
                  cases fb <;> simp -implicitDefEqProofs (maxSteps := 4000000) (disch := omega) only [go_sem, go_sem_proc, dr, Nat.min_def, ↓reduceIte, hT, hD, hSY, hlx, hL, hcz, hfb, List.length_cons] <;> ((repeat' split) <;> (change _ = true; kernel_rfl))
                · simp -implicitDefEqProofs (maxSteps := 4000000) (disch := omega) only [go_sem, go_sem_proc, dr, Nat.min_def, ↓reduceIte, hT, hD, hSY, hlx, hL, hcz, List.length_cons] <;> ((repeat' split) <;> (change _ = true; kernel_rfl))
            · obtain ⟨c, X, l2, hX, he, hT, hD, b1, b2, b3⟩ := hR4 4 (by decide)
              simp only [List.length_cons] at b1 b2
              have b1 : z.length ≤ c.length := by omega
              have b2 : c.length = z.length → k ≤ 4 := fun h => b2 (by omega)
              have hSX := hSame X l2 hX he
              clear hR4 hSame hX he
              rcases Nat.lt_or_eq_of_le b1 with hcz | hcz
              · clear b2
                rcases hSX with ⟨rfl, _, hSY⟩ | ⟨rfl, hSY⟩
                · obtain ⟨fb, hfb⟩ : ∃ fb, ((l2.map brow).any fun x => x.any sharesP) = fb := ⟨_, rfl⟩
                  cases fb <;> simp -implicitDefEqProofs (maxSteps := 4000000) (disch := omega) only [go_sem, go_sem_proc, dr, Nat.min_def, ↓reduceIte, hT, hD, hSY, hlx, hL, hfb, List.length_cons] <;> ((repeat' split) <;> (change _ = true; kernel_rfl))
                · simp -implicitDefEqProofs (maxSteps := 4000000) (disch := omega) only [go_sem, go_sem_proc, dr, Nat.min_def, ↓reduceIte, hT, hD, hSY, hlx, hL, List.length_cons] <;> ((repeat' split) <;> (change _ = true; kernel_rfl))
              · have b2 := b2 hcz.symm
                have hcz : (c.length : Int) = (z.length : Int) := by omega
                rcases hSX with ⟨rfl, _, hSY⟩ | ⟨rfl, hSY⟩
                · obtain ⟨fb, hfb⟩ : ∃ fb, ((l2.map brow).any fun x => x.any sharesP) = fb := ⟨_, rfl⟩
                  cases fb <;> simp -implicitDefEqProofs (maxSteps := 4000000) (disch := omega) only [go_sem, go_sem_proc, dr, Nat.min_def, ↓reduceIte, hT, hD, hSY, hlx, hL, hcz, hfb, List.length_cons] <;> ((repeat' split) <;> (change _ = true; kernel_rfl))
                · simp -implicitDefEqProofs (maxSteps := 4000000) (disch := omega) only [go_sem, go_sem_proc, dr, Nat.min_def, ↓reduceIte, hT, hD, hSY, hlx, hL, hcz, List.length_cons] <;> ((repeat' split) <;> (change _ = true; kernel_rfl))
          case refine_3 =>
            clear hSY hD hE hR4 hSame
            simp -implicitDefEqProofs (maxSteps := 4000000) (disch := omega) only [go_sem, go_sem_proc, dr, Nat.min_def, ↓reduceIte, hL, hlx]
            refine runs_for (fun i : Nat => (⟨[(7, .sl 1 M), (10, .sl 1 (ints .u8 (k :: z))), (115, .int .i64 L), (116, .int .i64 i)], [], 1⟩ : St)) x.length ?_ ?_ ?_
            · simp -implicitDefEqProofs (maxSteps := 4000000) (disch := omega) only [go_sem, go_sem_proc, dr, Nat.min_def, ↓reduceIte, hL, hlx]
            · intro i hi
              obtain ⟨y, hy, _, _⟩ := take_get hi
              obtain ⟨q, hq, r8, hA2⟩ := hAt i y hy
              have hgy := hgx hy
              have hiL : (i : Int) < L := by omega
              have hqq := toU8_beq (a := bz q) (b := bz y) (by rw [hq]; exact r8) r8
              rw [decide_eq_true hq] at hqq
              clear hAt hgx hq hy
              simp -implicitDefEqProofs (maxSteps := 4000000) (disch := omega) only [go_sem, go_sem_proc, dr, Nat.min_def, ↓reduceIte, hL, hlx, hA2, hgy, hqq]
              try ((repeat' split) <;> (change _ = true; kernel_rfl))
            · simp -implicitDefEqProofs (maxSteps := 4000000) (disch := omega) only [go_sem, go_sem_proc, dr, Nat.min_def, ↓reduceIte, hL, hA]
      · simp -implicitDefEqProofs (maxSteps := 4000000) (disch := omega) only [go_sem, go_sem_proc, dr, Nat.min_def, ↓reduceIte, hE, hlx, hL, hD, hSY]
        try (refine And.intro ?_ ?_; · ((repeat' split) <;> (change _ = true; kernel_rfl)))
        refine runs_for (fun i : Nat => (⟨[(7, .sl 1 M), (10, .h 2097792), (54, .h 2100608), (55, .int .i64 3), (56, .int .i64 i)], [(2097792, some ⟨true, .row 5 1 (ints .u8 (k :: z))⟩), (2100608, some ⟨true, .row 3 1 (ints .i64 [1, 2, 4])⟩)], 1⟩ : St)) 3 ?_ ?_ ?_
        case refine_1 => simp -implicitDefEqProofs (maxSteps := 4000000) (disch := omega) only [go_sem, go_sem_proc, dr, Nat.min_def, ↓reduceIte]
        case refine_2 =>
          clear hSY hD hE hAt
          intro i hi
          obtain rfl | rfl | rfl : i = 0 ∨ i = 1 ∨ i = 2 := by omega
          · obtain ⟨c, X, l2, hX, he, hT, hD, b1, b2, b3⟩ := hR4 1 (by decide)
            simp only [List.length_cons] at b1 b2
            have b1 : z.length ≤ c.length := by omega
            have b2 : c.length = z.length → k ≤ 1 := fun h => b2 (by omega)
            have hSX := hSame X l2 hX he
            clear hR4 hSame hX he
            rcases Nat.lt_or_eq_of_le b1 with hcz | hcz
            · clear b2
              rcases hSX with ⟨rfl, _, hSY⟩ | ⟨rfl, hSY⟩
              · obtain ⟨fb, hfb⟩ : ∃ fb, ((l2.map brow).any fun x => x.any sharesP) = fb := ⟨_, rfl⟩
                cases fb <;> simp -implicitDefEqProofs (maxSteps := 4000000) (disch := omega) only [go_sem, go_sem_proc, dr, Nat.min_def, ↓reduceIte, hT, hD, hSY, hlx, hL, hfb, List.length_cons] <;> ((repeat' split) <;> (change _ = true; kernel_rfl))
              · simp -implicitDefEqProofs (maxSteps := 4000000) (disch := omega) only [go_sem, go_sem_proc, dr, Nat.min_def, ↓reduceIte, hT, hD, hSY, hlx, hL, List.length_cons] <;> ((repeat' split) <;> (change _ = true; kernel_rfl))
            · have b2 := b2 hcz.symm
              have hcz : (c.length : Int) = (z.length : Int) := by omega
              rcases hSX with ⟨rfl, _, hSY⟩ | ⟨rfl, hSY⟩
              · obtain ⟨fb, hfb⟩ : ∃ fb, ((l2.map brow).any fun x => x.any sharesP) = fb := ⟨_, rfl⟩
                cases fb <;> simp -implicitDefEqProofs (maxSteps := 4000000) (disch := omega) only [go_sem, go_sem_proc, dr, Nat.min_def, ↓reduceIte, hT, hD, hSY, hlx, hL, hcz, hfb, List.length_cons] <;> ((repeat' split) <;> (change _ = true; kernel_rfl))
              · simp -implicitDefEqProofs (maxSteps := 4000000) (disch := omega) only [go_sem, go_sem_proc, dr, Nat.min_def, ↓reduceIte, hT, hD, hSY, hlx, hL, hcz, List.length_cons] <;> ((repeat' split) <;> (change _ = true; kernel_rfl))
          · obtain ⟨c, X, l2, hX, he, hT, hD, b1, b2, b3⟩ := hR4 2 (by decide)
            simp only [List.length_cons] at b1 b2
            have b1 : z.length ≤ c.length := by omega
            have b2 : c.length = z.length → k ≤ 2 := fun h => b2 (by omega)
            have hSX := hSame X l2 hX he
            clear hR4 hSame hX he
            rcases Nat.lt_or_eq_of_le b1 with hcz | hcz
            · clear b2
              rcases hSX with ⟨rfl, _, hSY⟩ | ⟨rfl, hSY⟩
              · obtain ⟨fb, hfb⟩ : ∃ fb, ((l2.map brow).any fun x => x.any sharesP) = fb := ⟨_, rfl⟩
                cases fb <;> simp -implicitDefEqProofs (maxSteps := 4000000) (disch := omega) only [go_sem, go_sem_proc, dr, Nat.min_def, ↓reduceIte, hT, hD, hSY, hlx, hL, hfb, List.length_cons] <;> ((repeat' split) <;> (change _ = true; kernel_rfl))
              · simp -implicitDefEqProofs (maxSteps := 4000000) (disch := omega) only [go_sem, go_sem_proc, dr, Nat.min_def, ↓reduceIte, hT, hD, hSY, hlx, hL, List.length_cons] <;> ((repeat' split) <;> (change _ = true; kernel_rfl))
            · have b2 := b2 hcz.symm
              have hcz : (c.length : Int) = (z.length : Int) := by omega
              rcases hSX with ⟨rfl, _, hSY⟩ | ⟨rfl, hSY⟩
              · obtain ⟨fb, hfb⟩ : ∃ fb, ((l2.map brow).any fun x => x.any sharesP) = fb := ⟨_, rfl⟩
                cases fb <;> simp -implicitDefEqProofs (maxSteps := 4000000) (disch := omega) only [go_sem, go_sem_proc, dr, Nat.min_def, ↓reduceIte, hT, hD, hSY, hlx, hL, hcz, hfb, List.length_cons] <;> ((repeat' split) <;> (change _ = true; kernel_rfl))
              · simp -implicitDefEqProofs (maxSteps := 4000000) (disch := omega) only [go_sem, go_sem_proc, dr, Nat.min_def, ↓reduceIte, hT, hD, hSY, hlx, hL, hcz, List.length_cons] <;> ((repeat' split) <;> (change _ = true; kernel_rfl))
          · obtain ⟨c, X, l2, hX, he, hT, hD, b1, b2, b3⟩ := hR4 4 (by decide)
            simp only [List.length_cons] at b1 b2
            have b1 : z.length ≤ c.length := by omega
            have b2 : c.length = z.length → k ≤ 4 := fun h => b2 (by omega)
            have hSX := hSame X l2 hX he
            clear hR4 hSame hX he
            rcases Nat.lt_or_eq_of_le b1 with hcz | hcz
            · clear b2
              rcases hSX with ⟨rfl, _, hSY⟩ | ⟨rfl, hSY⟩
              · obtain ⟨fb, hfb⟩ : ∃ fb, ((l2.map brow).any fun x => x.any sharesP) = fb := ⟨_, rfl⟩
                cases fb <;> simp -implicitDefEqProofs (maxSteps := 4000000) (disch := omega) only [go_sem, go_sem_proc, dr, Nat.min_def, ↓reduceIte, hT, hD, hSY, hlx, hL, hfb, List.length_cons] <;> ((repeat' split) <;> (change _ = true; kernel_rfl))
              · simp -implicitDefEqProofs (maxSteps := 4000000) (disch := omega) only [go_sem, go_sem_proc, dr, Nat.min_def, ↓reduceIte, hT, hD, hSY, hlx, hL, List.length_cons] <;> ((repeat' split) <;> (change _ = true; kernel_rfl))
            · have b2 := b2 hcz.symm
              have hcz : (c.length : Int) = (z.length : Int) := by omega
              rcases hSX with ⟨rfl, _, hSY⟩ | ⟨rfl, hSY⟩
              · obtain ⟨fb, hfb⟩ : ∃ fb, ((l2.map brow).any fun x => x.any sharesP) = fb := ⟨_, rfl⟩
                cases fb <;> simp -implicitDefEqProofs (maxSteps := 4000000) (disch := omega) only [go_sem, go_sem_proc, dr, Nat.min_def, ↓reduceIte, hT, hD, hSY, hlx, hL, hcz, hfb, List.length_cons] <;> ((repeat' split) <;> (change _ = true; kernel_rfl))
              · simp -implicitDefEqProofs (maxSteps := 4000000) (disch := omega) only [go_sem, go_sem_proc, dr, Nat.min_def, ↓reduceIte, hT, hD, hSY, hlx, hL, hcz, List.length_cons] <;> ((repeat' split) <;> (change _ = true; kernel_rfl))
        case refine_3 =>
          clear hSY hD hE hR4 hSame
          simp -implicitDefEqProofs (maxSteps := 4000000) (disch := omega) only [go_sem, go_sem_proc, dr, Nat.min_def, ↓reduceIte, hL, hlx]
          refine runs_any (fun a : Nat × Bool => (match a.2 with | false => ⟨[(7, .sl 1 M), (10, .h 2097792), (115, .int .i64 L), (116, .int .i64 a.1)], [(2097792, some ⟨true, .row 5 1 (ints .u8 (k :: z))⟩)], 1⟩ | true => ⟨[(7, .sl 1 M), (10, .sl 1 (ints .u8 (k :: z))), (115, .int .i64 L), (116, .int .i64 a.1)], [], 1⟩ : St)) (fun a => x.length - a.1) (0, false) (fun a => a.1 ≤ x.length) (Nat.zero_le _) ?_ ?_
          · simp -implicitDefEqProofs (maxSteps := 4000000) (disch := omega) only [go_sem, go_sem_proc, dr, Nat.min_def, ↓reduceIte, hL, hlx]
          · rintro ⟨i, fr⟩ hi
            dsimp only at hi
            rcases Nat.lt_or_eq_of_le hi with hi | hi
            · obtain ⟨y, hy, _, _⟩ := take_get hi
              obtain ⟨q, hq, r8, hA2⟩ := hAt i y hy
              have hgy := hgx hy
              have hiL : (i : Int) < L := by omega
              have hqq := toU8_beq (a := bz q) (b := bz y) (by rw [hq]; exact r8) r8
              rw [decide_eq_true hq] at hqq
              clear hAt hgx hq hy
              have hi1 : i + 1 ≤ x.length := hi
              have hm : x.length - (i + 1) < x.length - i := by omega
              cases fr
              · cases q with
                | none =>
                  simp only [blB_none, bz_none, List.map_nil] at hA2 hqq
                  have htb : toBytes [] = some [] := rfl
                  simp -implicitDefEqProofs (maxSteps := 4000000) (disch := omega) only [go_sem, go_sem_proc, dr, Nat.min_def, ↓reduceIte, hL, hlx, hA2, hgy, hqq, htb]
                  exact ⟨by ((repeat' split) <;> (change _ = true; kernel_rfl)), (i + 1, false), rfl, hi1, hm⟩
                | some q =>
                  simp only [blB_some, bz_some] at hA2 hqq
                  simp -implicitDefEqProofs (maxSteps := 4000000) (disch := omega) only [go_sem, go_sem_proc, dr, Nat.min_def, ↓reduceIte, hL, hlx, hA2, hgy, hqq]
                  exact ⟨by ((repeat' split) <;> (change _ = true; kernel_rfl)), (i + 1, true), rfl, hi1, hm⟩
              · simp -implicitDefEqProofs (maxSteps := 4000000) (disch := omega) only [go_sem, go_sem_proc, dr, Nat.min_def, ↓reduceIte, hL, hlx, hA2, hgy, hqq]
                exact ⟨by ((repeat' split) <;> (change _ = true; kernel_rfl)), (i + 1, true), rfl, hi1, hm⟩
            · have hi : (i : Int) = L := by omega
              clear hAt hgx
              cases fr <;> simp -implicitDefEqProofs (maxSteps := 4000000) (disch := omega) only [go_sem, go_sem_proc, dr, Nat.min_def, ↓reduceIte, hi, hL, hA]
  · obtain ⟨j, oj, h1, h2, h3⟩ := first_big (L := x) (by simpa using hs)
    have hjl : j < x.length := (List.getElem?_eq_some_iff.1 h1).1
    generalize x.map brow = M at *
    clear hs hr hrl hCo
    refine runs_any (fun i : Nat => (⟨[(7, .sl 1 M), (26, .sl 1 M), (27, .int .i64 x.length), (28, .int .i64 i)], [], 1⟩ : St)) (fun i => x.length - i) 0 (fun i => i ≤ j) (Nat.zero_le _) ?_ ?_
    · simp -implicitDefEqProofs (maxSteps := 4000000) (disch := omega) only [go_sem, go_sem_proc, dr, Nat.min_def, ↓reduceIte, hlx]
    · intro i hij
      obtain ⟨o, ho, hm, ht⟩ := take_get (l := x) (i := i) (by omega)
      have hgo := hgx ho
      have hiL : i < x.length := by omega
      have h64 := (hx o hm).2
      by_cases hc : i = j
      · subst hc
        rw [h1] at ho
        injection ho with ho
        subst ho
        have hbig : 64 < (bz oj).length := of_decide_eq_true h2
        clear h3 h1 h2 ht hgx hx
        obtain ⟨n, hn⟩ : ∃ n : Int, ((bz oj).length : Int) = n := ⟨_, rfl⟩
        have hb : 64 < n := by omega
        clear hbig
        simp -implicitDefEqProofs (maxSteps := 4000000) (disch := omega) only [go_sem, go_sem_proc, dr, Nat.min_def, ↓reduceIte, hgo, hlx, hn, hA]
      · have hsm : (bz o).length ≤ 64 := Nat.le_of_not_lt (of_decide_eq_false (h3 i (by omega) o ho))
        clear h3 ht hgx hx h1 h2
        obtain ⟨n, hn⟩ : ∃ n : Int, ((bz o).length : Int) = n := ⟨_, rfl⟩
        have hb : n ≤ 64 := by omega
        clear hsm
        simp -implicitDefEqProofs (maxSteps := 4000000) (disch := omega) only [go_sem, go_sem_proc, dr, Nat.min_def, ↓reduceIte, hgo, hlx, hn]
        exact ⟨i + 1, rfl, by omega, by omega⟩
end Go.Proofs.Ytmaehmacngldbaa.D
