/- The document's own columns: read of bytes: lists of the unlike; all kinds; numbers. -/
import Derived.Test.YtmaehmacngldbaaRef10
namespace Go.Proofs.Ytmaehmacngldbaa.D
open Go Go.Den
set_option linter.unusedSimpArgs false
set_option linter.unusedVariables false
set_option maxRecDepth 20000
set_option maxHeartbeats 8000000
theorem pickO_ok {u : List RB'} : ∀ {l : List Int}, (∀ x ∈ l, x < (u.length : Int)) → pickO u l = some (l.map fun i => u.getD i.toNat none)
  | [], _ => rfl
  | i :: r, h => by
    have h1 := h i (by simp)
    rw [pickO, if_neg (by omega), pickO_ok (fun x hx => h x (by simp [hx]))]
    rfl
theorem pickO_bad {u : List RB'} : ∀ {l : List Int} {x : Int}, x ∈ l → (u.length : Int) ≤ x → pickO u l = none
  | [], _, h, _ => by simp at h
  | i :: r, x, h, hx => by
    rw [pickO]
    split
    · rfl
    · rcases List.mem_cons.1 h with rfl | h
      · omega
      · rw [pickO_bad h hx]; rfl
theorem getD_BS {u : List RB'} (h : BS u) (i : Nat) : R8 (bz (u.getD i none)) ∧ (bz (u.getD i none)).length ≤ 64 := by
  rw [List.getD_eq_getElem?_getD]
  cases hq : u[i]? with
  | none => exact ⟨fun z hz => by simp [bz_none] at hz, by simp [bz_none]⟩
  | some y => exact h y (List.mem_of_getElem? hq)
theorem get_4 {zs : List Int} {n : Nat} {nums : Bool} (h8 : R8 (4 :: zs)) (hl : zs.length ≤ 100000000) (hn : n ≤ 65535) : ∃ Y, dw E 31 [.sl 1 (ints .u8 (4 :: zs)), .int .i64 n, .bool nums] [] = some (Y, []) ∧ GetR (refGet nums (4 :: zs) n) Y := by
  have hG : GS (zs, false) := ⟨fun z hz => h8 z (by simp [hz]), by dsimp only; omega⟩
  have hget : refGet nums (4 :: zs) n = match refDi nums n (zs, false) with | none => none | some (out, s) => if s.2 = false ∧ refTell nums 4 out = some (4 :: zs) ∧ out.length = n ∧ (nums = true ∨ shortO out = true) then some out else none := by
    unfold refGet
    simp only [Int.toNat_natCast]
    rw [if_pos (by omega)]
    rfl
  rw [hget]
  have hN := RS_num hG
  obtain ⟨g1, g2, g3, _⟩ := rnumS_good hG
  have hDi : refDi nums n (zs, false) = match unpack (width ((wordsO nums (zs, false)).1.length - 1) : Nat) (wordsO nums (zs, false)).2.1 n with
    | none => some ([], (wordsO nums (zs, false)).2)
    | some l => (pickO (wordsO nums (zs, false)).1 l).map fun o => (o, (wordsO nums (zs, false)).2) := rfl
  have hwo : wordsO nums (zs, false) = refPl nums (rnumS (zs, false)).2 (min (rnumS (zs, false)).1.toNat 65535) := rfl
  rw [hDi]
  clear hget hDi hG
  generalize rnumS (zs, false) = p at *
  obtain ⟨v, s1⟩ := p
  dsimp only at *
  obtain ⟨m, rfl⟩ := Int.eq_ofNat_of_zero_le g2
  simp only [Int.toNat_natCast] at hwo
  have hgood := fun j => refPl_good (nums := nums) g1 j
  have hbad := fun {j : Nat} => refPl_bad (nums := nums) (s := s1) (j := j)
  obtain ⟨gw1, gw2, gw3⟩ := hgood (min m 65535)
  obtain ⟨M, hM, hM1, hM2, hM3⟩ : ∃ M : Nat, min m 65535 = M ∧ M ≤ m ∧ M ≤ 65535 ∧ (M = m ∨ M = 65535) := ⟨_, rfl, by omega, by omega, by omega⟩
  rw [hM] at hwo gw1 gw2 gw3
  rw [← hwo] at gw1 gw2 gw3
  generalize hW : wordsO nums (zs, false) = W at *
  obtain ⟨U, B, bad⟩ := W
  dsimp only at *
  have hWi := RWidth_spec (u := U.length - 1) (by omega)
  have hwl : width (U.length - 1) ≤ 64 := width_le (by omega)
  have hP := RUnpack_spec (zs := B) (n := (width (U.length - 1) : Nat)) (c := n) gw1.1 (Nat.le_trans gw1.2 (by decide))
  obtain ⟨C, hC⟩ : ∃ C : Int, (U.length : Int) = C := ⟨_, rfl⟩
  have hC0 : 0 ≤ C ∧ C ≤ 65535 := by omega
  have hmax : ((U.length - 1 : Nat) : Int) = if C - 1 < 0 then 0 else C - 1 := by split <;> omega
  rw [hmax] at hWi
  -- what the list comes to
  obtain ⟨O, hO⟩ : ∃ O, O = (match unpack (width (U.length - 1) : Nat) B n with
    | none => some ([], ((B, bad) : RS))
    | some l => (pickO U l).map fun o => (o, ((B, bad) : RS))) := ⟨_, rfl⟩
  rw [← hO]
  obtain ⟨Y, hY⟩ : ∃ Y, Y = (match O with
    | none => PV.tup [.nils, .bool false]
    | some (L, s) => if s.2 = false ∧ refTell nums 4 L = some (4 :: zs) ∧ L.length = n ∧ (nums = true ∨ shortO L = true) then PV.tup [.nr 28 1 (L.map brow), .bool true] else .tup [.nils, .bool false]) := ⟨_, rfl⟩
  refine ⟨Y, ?_, ?_⟩
  rotate_left
  · rw [hY]
    rcases O with _ | ⟨L, s⟩
    · rfl
    · dsimp only
      split
      · exact ⟨_, .inl rfl, rfl⟩
      · rfl
  unfold rs2 at hN
  dsimp only at hN
  refine dw_in (fn := Try.f31) rfl body31 (by simp) ?_
  simp -implicitDefEqProofs (maxSteps := 4000000) (disch := omega) only [go_sem, go_sem_proc, dr, Nat.min_def, ↓reduceIte, List.length_cons, List.getElem?_cons_zero, List.drop_succ_cons, List.drop_zero, hN]
  refine runs_any (fun j : Nat => (⟨[(0, .sl 1 (ints .u8 (4 :: zs))), (1, .int .i64 n), (2, .bool nums), (8, .pb 1048584 0), (9, .nils), (10, .h 2097792), (18, .int .u64 m), (19, .int .u64 j)], [(1048584, some ⟨true, .box (rs2 (refPl nums s1 j).2)⟩), (2097792, some ⟨true, .row 28 1 ((refPl nums s1 j).1.map brow)⟩)], 1⟩ : St)) (fun j => M - j) 0 (fun j => j ≤ M) (Nat.zero_le _) ?_ ?_
  · have e1 : (refPl nums s1 0).1.map brow = [] := rfl
    have e2 : rs2 (refPl nums s1 0).2 = [.sl 1 (ints .u8 s1.1), .bool s1.2] := rfl
    rw [e1, e2]
    clear hgood hbad hwo hO hY hP hWi
    simp -implicitDefEqProofs (maxSteps := 4000000) (disch := omega) only [go_sem, go_sem_proc, dr, Nat.min_def, ↓reduceIte]
  · intro j hj
    obtain ⟨q1, q2, q3⟩ := hgood j
    by_cases hgo : j < M ∧ (refPl nums s1 j).2.2 = false
    · have hV := value_spec (nums := nums) q1
      have e : refPl nums s1 (j + 1) = ((refPl nums s1 j).1 ++ [(rvalS nums (refPl nums s1 j).2).1], (rvalS nums (refPl nums s1 j).2).2) := by
        have e : refPl nums s1 (j + 1) = if (refPl nums s1 j).2.2 then refPl nums s1 j else ((refPl nums s1 j).1 ++ [(rvalS nums (refPl nums s1 j).2).1], (rvalS nums (refPl nums s1 j).2).2) := rfl
        rw [e, hgo.2]; rfl
      have hgs := hgo.2
      have hgj : (j : Int) < (m : Int) := by omega
      have hg6 : (j : Int) < 65535 := by omega
      have hgm := hgo.1
      clear hgood hbad hwo hO hY hP hWi hgo hN gw1 gw2
      generalize refPl nums s1 j = p at *
      obtain ⟨out, B1, bad1⟩ := p
      dsimp only at *
      subst hgs
      generalize rvalS nums (B1, false) = q at *
      obtain ⟨o, B2, bad2⟩ := q
      dsimp only at *
      unfold rs2 at *
      dsimp only at *
      cases nums
      · have e1 : valR false o = nilB o := rfl
        rw [e1] at hV
        cases o <;> simp only [nilB] at hV ⊢ <;> simp -implicitDefEqProofs (maxSteps := 4000000) (disch := omega) only [go_sem, go_sem_proc, dr, Nat.min_def, ↓reduceIte, hV, List.length_map] <;> exact ⟨j + 1, by rw [e]; simp only [List.map_append, List.map_cons, List.map_nil, brow, bl]; rfl, by omega, by omega⟩
      · have e1 : valR true o = bl o := rfl
        rw [e1] at hV
        simp -implicitDefEqProofs (maxSteps := 4000000) (disch := omega) only [go_sem, go_sem_proc, dr, Nat.min_def, ↓reduceIte, hV, List.length_map]
        exact ⟨j + 1, by rw [e]; simp only [List.map_append, List.map_cons, List.map_nil, brow]; rfl, by omega, by omega⟩
    · have hex : refPl nums s1 j = (U, B, bad) ∧ (j = M ∨ bad = true) := by
        by_cases hjn : j < M
        · have hb : (refPl nums s1 j).2.2 = true := by
            cases hq : (refPl nums s1 j).2.2 with
            | true => rfl
            | false => exact absurd ⟨hjn, hq⟩ hgo
          have := hbad hb M (by omega)
          rw [← hwo] at this
          exact ⟨this.symm, .inr (by rw [← this] at hb; exact hb)⟩
        · obtain rfl : j = M := by omega
          exact ⟨hwo.symm, .inl rfl⟩
      rw [hex.1]
      have hex2 := hex.2
      dsimp only
      unfold rs2
      dsimp only
      clear q1 q2 q3 hex hgood hbad hwo hgo hN hmax
      have hpos : (j < m ∧ j < 65535 ∧ bad = true) ∨ j = m ∨ (j < m ∧ j = 65535) := by
        rcases hex2 with h | h
        · rcases hM3 with h' | h'
          · exact .inr (.inl (by omega))
          · by_cases hjm : j = m
            · exact .inr (.inl hjm)
            · exact .inr (.inr ⟨by omega, by omega⟩)
        · by_cases hjm : j = m
          · exact .inr (.inl hjm)
          · by_cases h65 : j = 65535
            · exact .inr (.inr ⟨by omega, h65⟩)
            · exact .inl ⟨by omega, by omega, h⟩
      have hBl : B.length ≤ 1000000000 := gw1.2
      have hMC : C % 18446744073709551616 = C := by omega
      clear hex2 hM3
      cases hun : unpack (width (U.length - 1) : Nat) B n with
      | none =>
        rw [hun] at hP hO
        simp only [resU] at hP
        dsimp only at hO
        subst hO
        dsimp only at hY
        clear hun
        generalize width (U.length - 1) = wd at *
        have hT0 := rtell_spec (L := []) (k := 4) (nums := nums) (fun o ho => by simp at ho)
        have hf0 := fun t => rtell_len (nums := nums) (k := 4) (b := t) (L := []) (fun o ho => by simp at ho)
        have hS0 := short_spec (L := []) (by simp)
        have go : ∃ L : List RB', L = [] := ⟨_, rfl⟩
        obtain ⟨L, hL⟩ := go
        rw [← hL] at hT0 hf0 hS0 hY
        have hLB : ints .u64 [] = [] := rfl
        rcases hpos with ⟨p1, p2, p3⟩ | rfl | ⟨p1, rfl⟩
        simp -implicitDefEqProofs (maxSteps := 4000000) (disch := omega) only [go_sem, go_sem_proc, dr, Nat.min_def, ↓reduceIte, p3, hC, hWi, hP, List.length_map]
        rotate_left
        simp -implicitDefEqProofs (maxSteps := 4000000) (disch := omega) only [go_sem, go_sem_proc, dr, Nat.min_def, ↓reduceIte, hC, hWi, hP, List.length_map]
        rotate_left
        simp -implicitDefEqProofs (maxSteps := 4000000) (disch := omega) only [go_sem, go_sem_proc, dr, Nat.min_def, ↓reduceIte, hC, hWi, hP, List.length_map]
        rotate_left
        all_goals refine ⟨by ((repeat' split) <;> (change _ = true; kernel_rfl)), ?_⟩
        all_goals refine runs_for (fun i : Nat => (⟨[(0, .sl 1 (ints .u8 (4 :: zs))), (1, .int .i64 n), (2, .bool nums), (8, .pb 1048584 0), (9, .h 2097728), (10, .h 2097792), (20, .nils), (21, .bool false), (22, .int .i64 0)], [(1048584, some ⟨true, .box [.sl 1 (ints .u8 B), .bool bad]⟩), (2097728, some ⟨true, .row 28 1 (L.map brow)⟩), (2097792, some ⟨true, .row 28 1 (U.map brow)⟩)], 1⟩ : St)) 0 ?_ (fun i h => absurd h (Nat.not_lt_zero i)) ?_
        case inl.refine_1 => rw [hL]; simp -implicitDefEqProofs (maxSteps := 4000000) (disch := omega) only [go_sem, go_sem_proc, dr, Nat.min_def, ↓reduceIte, p3, List.map_nil]
        case inr.inl.refine_1 | inr.inr.refine_1 => rw [hL]; simp -implicitDefEqProofs (maxSteps := 4000000) (disch := omega) only [go_sem, go_sem_proc, dr, Nat.min_def, ↓reduceIte, List.map_nil]
        all_goals clear hP hWi
        all_goals have hT := hT0
        all_goals have hf := hf0
        all_goals have hS := hS0
        all_goals clear hT0 hf0 hS0
        all_goals
          cases bad with
          | true =>
            rw [if_neg (by rintro ⟨h, _⟩; cases h)] at hY
            subst hY
            clear hf hS
            cases hR : refTell nums 4 L <;> rw [hR] at hT <;> simp only [rtellR] at hT <;> simp -implicitDefEqProofs (maxSteps := 4000000) (disch := omega) only [go_sem, go_sem_proc, dr, Nat.min_def, ↓reduceIte, hT, List.length_cons, List.getElem?_cons_zero, List.length_map]
          | false =>
            cases hR : refTell nums 4 L with
            | none =>
              rw [hR] at hT hY
              rw [if_neg (by rintro ⟨_, h, _⟩; cases h)] at hY
              subst hY
              clear hf hS
              simp only [rtellR] at hT
              simp -implicitDefEqProofs (maxSteps := 4000000) (disch := omega) only [go_sem, go_sem_proc, dr, Nat.min_def, ↓reduceIte, hT, List.length_cons, List.getElem?_cons_zero, List.length_map]
            | some t =>
              obtain ⟨f1, f2, f3, _⟩ := hf t hR
              rw [hR] at hT hY
              simp only [rtellR] at hT
              have hq := toU8_beq f1 h8
              rw [List.map_cons] at hq
              by_cases hlen : L.length = n
              · have hln : ((L.length : Int) = (n : Int)) = True := eq_true (by omega)
                by_cases htb : t = 4 :: zs
                · rw [decide_eq_true htb] at hq
                  cases nums with
                  | true =>
                    rw [if_pos ⟨rfl, by rw [htb], hlen, .inl rfl⟩] at hY
                    subst hY
                    clear hf hS htb
                    simp -implicitDefEqProofs (maxSteps := 4000000) (disch := omega) only [go_sem, go_sem_proc, dr, Nat.min_def, ↓reduceIte, hT, hln, hq, List.length_cons, List.getElem?_cons_zero, List.length_map]
                    first | done | ((repeat' split) <;> (change _ = true; kernel_rfl))
                  | false =>
                    cases hsh : shortO L with
                    | true =>
                      rw [if_pos ⟨rfl, by rw [htb], hlen, .inr hsh⟩] at hY
                      subst hY
                      rw [hsh] at hS
                      clear hf htb
                      simp -implicitDefEqProofs (maxSteps := 4000000) (disch := omega) only [go_sem, go_sem_proc, dr, Nat.min_def, ↓reduceIte, hT, hln, hq, hS, List.length_cons, List.getElem?_cons_zero, List.length_map]
                      first | done | ((repeat' split) <;> (change _ = true; kernel_rfl))
                    | false =>
                      rw [if_neg (by rintro ⟨_, _, _, h | h⟩; cases h; rw [hsh] at h; cases h)] at hY
                      subst hY
                      rw [hsh] at hS
                      clear hf htb
                      simp -implicitDefEqProofs (maxSteps := 4000000) (disch := omega) only [go_sem, go_sem_proc, dr, Nat.min_def, ↓reduceIte, hT, hln, hq, hS, List.length_cons, List.getElem?_cons_zero, List.length_map]
                      first | done | ((repeat' split) <;> (change _ = true; kernel_rfl))
                · rw [if_neg (by rintro ⟨_, h, _⟩; injection h with h; exact htb h)] at hY
                  subst hY
                  rw [decide_eq_false htb] at hq
                  clear hf hS htb
                  simp -implicitDefEqProofs (maxSteps := 4000000) (disch := omega) only [go_sem, go_sem_proc, dr, Nat.min_def, ↓reduceIte, hT, hln, hq, List.length_cons, List.getElem?_cons_zero, List.length_map]
                  first | done | ((repeat' split) <;> (change _ = true; kernel_rfl))
              · rw [if_neg (by rintro ⟨_, _, h, _⟩; exact hlen h)] at hY
                subst hY
                have hln : ((L.length : Int) = (n : Int)) = False := eq_false (by omega)
                clear hf hS hq hlen
                simp -implicitDefEqProofs (maxSteps := 4000000) (disch := omega) only [go_sem, go_sem_proc, dr, Nat.min_def, ↓reduceIte, hT, hln, List.length_cons, List.getElem?_cons_zero, List.length_map]
                first | done | ((repeat' split) <;> (change _ = true; kernel_rfl))

      | some al =>
        obtain ⟨d1, d2, d3, d4⟩ := unpack_q hun
        rw [hun] at hP hO
        simp only [resU] at hP
        dsimp only at hO
        clear hun
        generalize width (U.length - 1) = wd at *
        obtain ⟨A, hA⟩ : ∃ A : Int, (al.length : Int) = A := ⟨_, rfl⟩
        have hA0 : 0 ≤ A ∧ A ≤ 65535 := by omega
        by_cases hall : ∀ x ∈ al, x < (U.length : Int)
        · rw [pickO_ok hall] at hO
          rw [Option.map_some] at hO
          subst hO
          dsimp only at hY
          have gn2 : BS (al.map fun i => U.getD i.toNat none) := fun o ho => by
            obtain ⟨x, _, rfl⟩ := List.mem_map.1 ho
            exact getD_BS gw2 _
          have hT := rtell_spec (k := 4) (nums := nums) gn2
          have hf := fun t => rtell_len (nums := nums) (k := 4) (b := t) gn2
          have hS := short_spec (L := al.map fun i => U.getD i.toNat none) (by rw [List.length_map]; omega)
          have hLn : (al.map fun i => U.getD i.toNat none).length = n := by rw [List.length_map]; omega
          obtain ⟨L, hL⟩ : ∃ L, L = al.map fun i => U.getD i.toNat none := ⟨_, rfl⟩
          rw [← hL] at hT hf hS hLn hY
          have hjn' : (L.length : Int) = (n : Int) := by omega
          rcases hpos with ⟨p1, p2, p3⟩ | rfl | ⟨p1, rfl⟩
          simp -implicitDefEqProofs (maxSteps := 4000000) (disch := omega) only [go_sem, go_sem_proc, dr, Nat.min_def, ↓reduceIte, p3, hC, hWi, hP, List.length_map]
          rotate_left
          simp -implicitDefEqProofs (maxSteps := 4000000) (disch := omega) only [go_sem, go_sem_proc, dr, Nat.min_def, ↓reduceIte, hC, hWi, hP, List.length_map]
          rotate_left
          simp -implicitDefEqProofs (maxSteps := 4000000) (disch := omega) only [go_sem, go_sem_proc, dr, Nat.min_def, ↓reduceIte, hC, hWi, hP, List.length_map]
          rotate_left
          all_goals refine ⟨by ((repeat' split) <;> (change _ = true; kernel_rfl)), ?_⟩
          all_goals refine runs_for (fun i : Nat => (⟨[(0, .sl 1 (ints .u8 (4 :: zs))), (1, .int .i64 n), (2, .bool nums), (8, .pb 1048584 0), (9, .h 2097728), (10, .h 2097792), (20, .h 2098432), (21, .bool true), (22, .int .i64 i)], [(1048584, some ⟨true, .box [.sl 1 (ints .u8 B), .bool bad]⟩), (2097728, some ⟨true, .row 28 1 (((al.take i).map fun i => U.getD i.toNat none).map brow)⟩), (2097792, some ⟨true, .row 28 1 (U.map brow)⟩), (2098432, some ⟨true, .row 58 1 (ints .u64 al)⟩)], 1⟩ : St)) al.length ?_ ?_ ?_
          case inl.refine_1 => simp -implicitDefEqProofs (maxSteps := 4000000) (disch := omega) only [go_sem, go_sem_proc, dr, Nat.min_def, ↓reduceIte, p3, List.map_nil, List.take_zero]
          case inr.inl.refine_1 | inr.inr.refine_1 => simp -implicitDefEqProofs (maxSteps := 4000000) (disch := omega) only [go_sem, go_sem_proc, dr, Nat.min_def, ↓reduceIte, List.map_nil, List.take_zero]
          case inl.refine_2 | inr.inl.refine_2 | inr.inr.refine_2 =>
            intro i hi
            obtain ⟨x, hx, hm, ht⟩ := take_get hi
            have hxr := d4 x hm
            have hxu := hall x hm
            rw [hC] at hxu
            have hiA : (i : Int) < A := by omega
            obtain ⟨y, hy, _, _⟩ := take_get (l := U) (i := x.toNat) (by omega)
            have hg : U.getD x.toNat none = y := by simp [List.getD, hy]
            have h9 : x < 9223372036854775808 := by omega
            have hol : (((al.take i).map fun i => U.getD i.toNat none).map brow).length ≤ 65535 := by rw [List.length_map, List.length_map, List.length_take]; omega
            have e5 : ((al.take (i + 1)).map fun i => U.getD i.toNat none).map brow = ((al.take i).map fun i => U.getD i.toNat none).map brow ++ [[bl y]] := by rw [ht, List.map_append, List.map_append, List.map_cons, List.map_nil, hg]; rfl
            rw [e5]
            generalize ((al.take i).map fun i => U.getD i.toNat none).map brow = out at *
            clear hP hWi hT hf hS hY h8 hL hall ht e5 d4
            simp -implicitDefEqProofs (maxSteps := 4000000) (disch := omega) only [go_sem, go_sem_proc, dr, Nat.min_def, ↓reduceIte, hx, hA, hC, hMC, hy, List.length_map, List.getElem?_map, Option.map_some, brow]
          all_goals rw [List.take_length, ← hL]
          all_goals clear hL hP hWi d4 hall
          all_goals
            cases bad with
            | true =>
              rw [if_neg (by rintro ⟨h, _⟩; cases h)] at hY
              subst hY
              clear hf hS
              cases hR : refTell nums 4 L <;> rw [hR] at hT <;> simp only [rtellR] at hT <;> simp -implicitDefEqProofs (maxSteps := 4000000) (disch := omega) only [go_sem, go_sem_proc, dr, Nat.min_def, ↓reduceIte, hT, List.length_cons, List.getElem?_cons_zero, List.length_map, hA, hjn']
            | false =>
              cases hR : refTell nums 4 L with
              | none =>
                rw [hR] at hT hY
                rw [if_neg (by rintro ⟨_, h, _⟩; cases h)] at hY
                subst hY
                clear hf hS
                simp only [rtellR] at hT
                simp -implicitDefEqProofs (maxSteps := 4000000) (disch := omega) only [go_sem, go_sem_proc, dr, Nat.min_def, ↓reduceIte, hT, List.length_cons, List.getElem?_cons_zero, List.length_map, hA, hjn']
              | some t =>
                obtain ⟨f1, f2, f3, _⟩ := hf t hR
                rw [hR] at hT hY
                simp only [rtellR] at hT
                have hq := toU8_beq f1 h8
                rw [List.map_cons] at hq
                by_cases hlen : L.length = n
                · have hln : ((L.length : Int) = (n : Int)) = True := eq_true (by omega)
                  by_cases htb : t = 4 :: zs
                  · rw [decide_eq_true htb] at hq
                    cases nums with
                    | true =>
                      rw [if_pos ⟨rfl, by rw [htb], hlen, .inl rfl⟩] at hY
                      subst hY
                      clear hf hS htb
                      simp -implicitDefEqProofs (maxSteps := 4000000) (disch := omega) only [go_sem, go_sem_proc, dr, Nat.min_def, ↓reduceIte, hT, hln, hq, List.length_cons, List.getElem?_cons_zero, List.length_map, hA, hjn']
                      first | done | ((repeat' split) <;> (change _ = true; kernel_rfl))
                    | false =>
                      cases hsh : shortO L with
                      | true =>
                        rw [if_pos ⟨rfl, by rw [htb], hlen, .inr hsh⟩] at hY
                        subst hY
                        rw [hsh] at hS
                        clear hf htb
                        simp -implicitDefEqProofs (maxSteps := 4000000) (disch := omega) only [go_sem, go_sem_proc, dr, Nat.min_def, ↓reduceIte, hT, hln, hq, hS, List.length_cons, List.getElem?_cons_zero, List.length_map, hA, hjn']
                        first | done | ((repeat' split) <;> (change _ = true; kernel_rfl))
                      | false =>
                        rw [if_neg (by rintro ⟨_, _, _, h | h⟩; cases h; rw [hsh] at h; cases h)] at hY
                        subst hY
                        rw [hsh] at hS
                        clear hf htb
                        simp -implicitDefEqProofs (maxSteps := 4000000) (disch := omega) only [go_sem, go_sem_proc, dr, Nat.min_def, ↓reduceIte, hT, hln, hq, hS, List.length_cons, List.getElem?_cons_zero, List.length_map, hA, hjn']
                        first | done | ((repeat' split) <;> (change _ = true; kernel_rfl))
                  · rw [if_neg (by rintro ⟨_, h, _⟩; injection h with h; exact htb h)] at hY
                    subst hY
                    rw [decide_eq_false htb] at hq
                    clear hf hS htb
                    simp -implicitDefEqProofs (maxSteps := 4000000) (disch := omega) only [go_sem, go_sem_proc, dr, Nat.min_def, ↓reduceIte, hT, hln, hq, List.length_cons, List.getElem?_cons_zero, List.length_map, hA, hjn']
                    first | done | ((repeat' split) <;> (change _ = true; kernel_rfl))
                · exact absurd (by omega) hlen

        · have hex : ∃ x, x ∈ al ∧ (U.length : Int) ≤ x := by
            refine Classical.byContradiction fun hno => hall fun x hx => ?_
            refine Int.lt_of_not_ge fun hle => hno ⟨x, hx, hle⟩
          obtain ⟨x0, hx0, hle0⟩ := hex
          rw [pickO_bad hx0 hle0] at hO
          rw [Option.map_none] at hO
          subst hO
          dsimp only at hY
          subst hY
          rcases hpos with ⟨p1, p2, p3⟩ | rfl | ⟨p1, rfl⟩
          simp -implicitDefEqProofs (maxSteps := 4000000) (disch := omega) only [go_sem, go_sem_proc, dr, Nat.min_def, ↓reduceIte, p3, hC, hWi, hP, List.length_map]
          rotate_left
          simp -implicitDefEqProofs (maxSteps := 4000000) (disch := omega) only [go_sem, go_sem_proc, dr, Nat.min_def, ↓reduceIte, hC, hWi, hP, List.length_map]
          rotate_left
          simp -implicitDefEqProofs (maxSteps := 4000000) (disch := omega) only [go_sem, go_sem_proc, dr, Nat.min_def, ↓reduceIte, hC, hWi, hP, List.length_map]
          rotate_left
          all_goals refine ⟨by ((repeat' split) <;> (change _ = true; kernel_rfl)), ?_⟩
          all_goals refine runs_any (fun i : Nat => (⟨[(0, .sl 1 (ints .u8 (4 :: zs))), (1, .int .i64 n), (2, .bool nums), (8, .pb 1048584 0), (9, .h 2097728), (10, .h 2097792), (20, .h 2098432), (21, .bool true), (22, .int .i64 i)], [(1048584, some ⟨true, .box [.sl 1 (ints .u8 B), .bool bad]⟩), (2097728, some ⟨true, .row 28 1 (((al.take i).map fun i => U.getD i.toNat none).map brow)⟩), (2097792, some ⟨true, .row 28 1 (U.map brow)⟩), (2098432, some ⟨true, .row 58 1 (ints .u64 al)⟩)], 1⟩ : St)) (fun i => al.length - i) 0 (fun i => i ≤ al.length ∧ ∀ x ∈ al.take i, x < (U.length : Int)) ⟨Nat.zero_le _, by simp⟩ ?_ ?_
          case inl.refine_1 => simp -implicitDefEqProofs (maxSteps := 4000000) (disch := omega) only [go_sem, go_sem_proc, dr, Nat.min_def, ↓reduceIte, p3, List.map_nil, List.take_zero]
          case inr.inl.refine_1 | inr.inr.refine_1 => simp -implicitDefEqProofs (maxSteps := 4000000) (disch := omega) only [go_sem, go_sem_proc, dr, Nat.min_def, ↓reduceIte, List.map_nil, List.take_zero]
          all_goals
            rintro i ⟨hi, hpre⟩
            by_cases he : i = al.length
            · subst he
              rw [List.take_length] at hpre
              exact absurd hpre hall
            · obtain ⟨x, hx, hm, ht⟩ := take_get (l := al) (i := i) (by omega)
              have hxr := d4 x hm
              have hil : i < al.length := by omega
              have hiA : (i : Int) < A := by omega
              have hol : (((al.take i).map fun i => U.getD i.toNat none).map brow).length ≤ 65535 := by rw [List.length_map, List.length_map, List.length_take]; omega
              by_cases hxu : x < C
              · obtain ⟨y, hy, _, _⟩ := take_get (l := U) (i := x.toNat) (by omega)
                have hg : U.getD x.toNat none = y := by simp [List.getD, hy]
                have h9 : x < 9223372036854775808 := by omega
                have e5 : ((al.take (i + 1)).map fun i => U.getD i.toNat none).map brow = ((al.take i).map fun i => U.getD i.toNat none).map brow ++ [[bl y]] := by rw [ht, List.map_append, List.map_append, List.map_cons, List.map_nil, hg]; rfl
                clear hP hWi h8 hall d4 he
                generalize hout : ((al.take i).map fun i => U.getD i.toNat none).map brow = out at *
                simp -implicitDefEqProofs (maxSteps := 4000000) (disch := omega) only [go_sem, go_sem_proc, dr, Nat.min_def, ↓reduceIte, hx, hA, hC, hMC, hy, List.length_map, List.getElem?_map, Option.map_some, brow]
                refine ⟨i + 1, by rw [e5]; rfl, ⟨by omega, fun z hz => ?_⟩, by omega⟩
                rw [ht] at hz
                rcases List.mem_append.1 hz with hz | hz
                · have := hpre z hz; omega
                · rw [List.mem_singleton.1 hz]; omega
              · have hxu' : C ≤ x := by omega
                clear hP hWi h8 hall d4 he hpre hxu
                generalize ((al.take i).map fun i => U.getD i.toNat none).map brow = out at *
                simp -implicitDefEqProofs (maxSteps := 4000000) (disch := omega) only [go_sem, go_sem_proc, dr, Nat.min_def, ↓reduceIte, hx, hA, hC, hMC, List.length_map]
end Go.Proofs.Ytmaehmacngldbaa.D
