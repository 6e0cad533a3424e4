/- The document's own columns: read of bytes: runs. -/
import Derived.Test.YtmaehmacngldbaaRef8
namespace Go.Proofs.Ytmaehmacngldbaa.D
open Go Go.Den
set_option linter.unusedSimpArgs false
set_option linter.unusedVariables false
set_option maxRecDepth 20000
set_option maxHeartbeats 8000000
theorem refRn_good {nums : Bool} {n : Nat} : ∀ (f : Nat) {out : List RB'} {s : RS}, GS s → BS out → out.length ≤ n → ∀ L s', refRn nums n f out s = some (L, s') → GS s' ∧ BS L ∧ L.length ≤ n
  | 0, out, s, h, ho, hl, L, s', e => by
    injection e with e
    injection e with e1 e2
    subst e1; subst e2
    exact ⟨h, ho, hl⟩
  | f + 1, out, s, h, ho, hl, L, s', e => by
    unfold refRn at e
    split at e
    · split at e
      · cases e
      · rename_i hc
        obtain ⟨g1, g2, g3, _⟩ := rnumS_good h
        obtain ⟨v1, v2, v3⟩ := rvalS_good (nums := nums) g1
        have : ¬ ((n - out.length : Nat) : Int) < (rnumS s).1 := fun h => hc (.inr h)
        refine refRn_good f v1 (fun o ho' => ?_) (by rw [List.length_append, List.length_replicate]; omega) L s' e
        rcases List.mem_append.1 ho' with ho' | ho'
        · exact ho o ho'
        · obtain ⟨_, rfl⟩ := List.mem_replicate.1 ho'
          exact ⟨v2, v3⟩
    · injection e with e
      injection e with e1 e2
      subst e1; subst e2
      exact ⟨h, ho, hl⟩
theorem get_2 {zs : List Int} {n : Nat} {nums : Bool} (h8 : R8 (2 :: zs)) (hl : zs.length ≤ 100000000) (hn : n ≤ 65535) : ∃ Y, dw E 31 [.sl 1 (ints .u8 (2 :: zs)), .int .i64 n, .bool nums] [] = some (Y, []) ∧ GetR (refGet nums (2 :: zs) n) Y := by
  have hG : GS (zs, false) := ⟨fun z hz => h8 z (by simp [hz]), by dsimp only; omega⟩
  have hget : refGet nums (2 :: zs) n = match refRn nums n (n + 1) [] (zs, false) with | none => none | some (out, s) => if s.2 = false ∧ refTell nums 2 out = some (2 :: zs) ∧ out.length = n ∧ (nums = true ∨ shortO out = true) then some out else none := by
    unfold refGet
    simp only [Int.toNat_natCast]
    rw [if_pos (by omega)]
    rfl
  rw [hget]
  have hgood := refRn_good (nums := nums) (n := n) (n + 1) hG (out := []) (fun o ho => by simp at ho) (Nat.zero_le _)
  generalize hF : refRn nums n (n + 1) [] (zs, false) = F at *
  obtain ⟨Y, hY⟩ : ∃ Y, Y = (match F with
    | none => PV.tup [.nils, .bool false]
    | some (L, s) => if s.2 = false ∧ refTell nums 2 L = some (2 :: zs) ∧ L.length = n ∧ (nums = true ∨ shortO L = true) then PV.tup [.nr 28 1 (L.map brow), .bool true] else .tup [.nils, .bool false]) := ⟨_, rfl⟩
  refine ⟨Y, ?_, ?_⟩
  rotate_left
  · rw [hY]
    rcases F with _ | ⟨L, s⟩
    · rfl
    · dsimp only
      split
      · exact ⟨_, .inl rfl, rfl⟩
      · rfl
  refine dw_in (fn := Try.f31) rfl body31 (by simp) ?_
  simp -implicitDefEqProofs (maxSteps := 4000000) (disch := omega) only [go_sem, go_sem_proc, dr, Nat.min_def, ↓reduceIte, List.length_cons, List.getElem?_cons_zero, List.drop_succ_cons, List.drop_zero]
  refine runs_any (fun a : List RB' × RS × Nat => (⟨[(0, .sl 1 (ints .u8 (2 :: zs))), (1, .int .i64 n), (2, .bool nums), (8, .pb 1048584 0), (9, .h 2097728)], [(1048584, some ⟨true, .box (rs2 a.2.1)⟩), (2097728, some ⟨true, .row 28 1 (a.1.map brow)⟩)], 1⟩ : St)) (fun a => a.2.2) ([], (zs, false), n + 1) (fun a => refRn nums n a.2.2 a.1 a.2.1 = F ∧ GS a.2.1 ∧ a.1.length ≤ n ∧ n < a.2.2 + a.1.length) ⟨hF, hG, Nat.zero_le _, by simp⟩ ?_ ?_
  · have e2 : rs2 (zs, false) = [.sl 1 (ints .u8 zs), .bool false] := rfl
    dsimp only
    rw [e2, List.map_nil]
    clear hgood hget hF hY
    simp -implicitDefEqProofs (maxSteps := 4000000) (disch := omega) only [go_sem, go_sem_proc, dr, Nat.min_def, ↓reduceIte]
  · clear hF
    rintro ⟨out, s, f⟩ ⟨hu, hg, hol, hf⟩
    dsimp only at hu hg hol hf ⊢
    cases f with
    | zero => omega
    | succ f =>
      rw [refRn] at hu
      by_cases hgo : out.length < n ∧ s.2 = false
      · rw [if_pos hgo] at hu
        have hN := RS_num hg
        obtain ⟨g1, g2, g3, _⟩ := rnumS_good hg
        have hV := value_spec (nums := nums) g1
        obtain ⟨w1, w2, w3⟩ := rvalS_good (nums := nums) g1
        obtain ⟨B0, b0⟩ := s
        obtain ⟨hlt, hb0⟩ := hgo
        dsimp only at hb0
        subst hb0
        generalize rnumS (B0, false) = p at *
        obtain ⟨v, B1, b1⟩ := p
        dsimp only at *
        generalize rvalS nums (B1, b1) = q at *
        obtain ⟨o, B2, b2⟩ := q
        dsimp only at *
        unfold rs2 at hN hV ⊢
        dsimp only at *
        have hnl : ((n - out.length : Nat) : Int) = (n : Int) - out.length := by omega
        rw [hnl] at hu
        clear hget hgood hg g1 hG
        have hfail : (v = 0 ∨ (n : Int) - out.length < v) → Runs E 31 0 Code.skip ⟨[], [], 1⟩ (fun _ _ => True) → True := fun _ _ => trivial
        by_cases hbad : v = 0 ∨ (n : Int) - out.length < v
        · rw [if_pos hbad] at hu
          subst hu
          dsimp only at hY
          subst hY
          by_cases h0 : v = 0
          · subst h0
            cases nums <;> cases o <;> simp only [valR, nilB, bl, Bool.false_eq_true, ↓reduceIte] at hV <;> simp -implicitDefEqProofs (maxSteps := 4000000) (disch := omega) only [go_sem, go_sem_proc, dr, Nat.min_def, ↓reduceIte, hN, hV, List.length_map]
          · have h0' := eq_false h0
            have h1 : (n : Int) - out.length < v := by rcases hbad with h | h; exact absurd h h0; exact h
            cases nums <;> cases o <;> simp only [valR, nilB, bl, Bool.false_eq_true, ↓reduceIte] at hV <;> simp -implicitDefEqProofs (maxSteps := 4000000) (disch := omega) only [go_sem, go_sem_proc, dr, Nat.min_def, ↓reduceIte, hN, hV, h0', List.length_map]
        · rw [if_neg hbad] at hu
          have h0 : v ≠ 0 := fun h => hbad (.inl h)
          have h1 : v ≤ (n : Int) - out.length := by
            have : ¬ (n : Int) - out.length < v := fun h => hbad (.inr h)
            omega
          obtain ⟨m, rfl⟩ := Int.eq_ofNat_of_zero_le g2
          simp only [Int.toNat_natCast] at hu
          have h0' := eq_false h0
          have hm1 : 1 ≤ m := by omega
          have hm2 : out.length + m ≤ 65535 := by omega
          have next : ∀ X : List (List PV), X = out.map brow ++ List.replicate m [bl o] → (∃ a' : List RB' × RS × Nat, some (⟨[(0, .sl 1 (ints .u8 (2 :: zs))), (1, .int .i64 n), (2, .bool nums), (8, .pb 1048584 0), (9, .h 2097728)], [(1048584, some ⟨true, .box [.sl 1 (ints .u8 B2), .bool b2]⟩), (2097728, some ⟨true, .row 28 1 X⟩)], 1⟩ : St) = some (⟨[(0, .sl 1 (ints .u8 (2 :: zs))), (1, .int .i64 n), (2, .bool nums), (8, .pb 1048584 0), (9, .h 2097728)], [(1048584, some ⟨true, .box (rs2 a'.2.1)⟩), (2097728, some ⟨true, .row 28 1 (a'.1.map brow)⟩)], 1⟩ : St) ∧ (refRn nums n a'.2.2 a'.1 a'.2.1 = F ∧ GS a'.2.1 ∧ a'.1.length ≤ n ∧ n < a'.2.2 + a'.1.length) ∧ a'.2.2 < f + 1) := by
            intro X hX
            refine ⟨(out ++ List.replicate m o, (B2, b2), f), ?_, ⟨hu, w1, ?_, ?_⟩, Nat.lt_succ_self f⟩
            · dsimp only
              rw [hX, List.map_append, List.map_replicate, brow]
              rfl
            · dsimp only; rw [List.length_append, List.length_replicate]; omega
            · dsimp only; rw [List.length_append, List.length_replicate]; omega
          clear hbad hY hu
          generalize hT : out.map brow = T at *
          have hTl : T.length = out.length := by rw [← hT, List.length_map]
          have hTL : (T.length : Int) = (out.length : Int) := by omega
          clear hT
          by_cases hc : nums = false ∧ ∃ z, o = some z
          · obtain ⟨rfl, z, rfl⟩ := hc
            simp only [valR, nilB, Bool.false_eq_true, ↓reduceIte] at hV
            simp -implicitDefEqProofs (maxSteps := 4000000) (disch := omega) only [go_sem, go_sem_proc, dr, Nat.min_def, ↓reduceIte, hN, hV, h0', hTL]
            refine runs_for (fun i : Nat => (match i with
              | 0 => ⟨[(0, .sl 1 (ints .u8 (2 :: zs))), (1, .int .i64 n), (2, .bool false), (8, .pb 1048584 0), (9, .h 2097728), (12, .int .u64 m), (13, .h 2097984)], [(1048584, some ⟨true, .box [.sl 1 (ints .u8 B2), .bool b2]⟩), (2097728, some ⟨true, .row 28 1 T⟩), (2097984, some ⟨true, .row 5 1 (ints .u8 z)⟩)], 1⟩
              | i + 1 => ⟨[(0, .sl 1 (ints .u8 (2 :: zs))), (1, .int .i64 n), (2, .bool false), (8, .pb 1048584 0), (9, .h 2097728), (12, .int .u64 ((m : Int) - ((i : Int) + 1))), (13, .sl 1 (ints .u8 z))], [(1048584, some ⟨true, .box [.sl 1 (ints .u8 B2), .bool b2]⟩), (2097728, some ⟨true, .row 28 1 (T ++ List.replicate (i + 1) [.sl 1 (ints .u8 z)])⟩)], 1⟩ : St)) m ?_ ?_ ?_
            · simp -implicitDefEqProofs (maxSteps := 4000000) (disch := omega) only [go_sem, go_sem_proc, dr, Nat.min_def, ↓reduceIte]
            · intro i hi
              cases i with
              | zero =>
                dsimp only
                simp -implicitDefEqProofs (maxSteps := 4000000) (disch := omega) only [go_sem, go_sem_proc, dr, Nat.min_def, ↓reduceIte, hTL, List.replicate_succ, List.replicate_zero]
              | succ i =>
                dsimp only
                have e1 : T ++ List.replicate (i + 1) [PV.sl 1 (ints .u8 z)] ++ [[.sl 1 (ints .u8 z)]] = T ++ List.replicate (i + 1 + 1) [.sl 1 (ints .u8 z)] := by rw [List.replicate_succ' (n := i + 1), List.append_assoc]
                have e2 : (m : Int) - ((i : Int) + 1) - 1 = (m : Int) - ((i : Int) + 1 + 1) := by omega
                have hWl : (T ++ List.replicate (i + 1) [PV.sl 1 (ints .u8 z)]).length ≤ 65535 := by rw [List.length_append, List.length_replicate]; omega
                rw [← e1]
                generalize T ++ List.replicate (i + 1) [PV.sl 1 (ints .u8 z)] = W at *
                clear next
                simp -implicitDefEqProofs (maxSteps := 4000000) (disch := omega) only [go_sem, go_sem_proc, dr, Nat.min_def, ↓reduceIte, e2]
            · obtain ⟨k, rfl⟩ : ∃ k, m = k + 1 := ⟨m - 1, by omega⟩
              dsimp only
              have hfin := next _ (rfl : T ++ List.replicate (k + 1) [bl (some z)] = _)
              simp only [bl] at hfin
              clear next
              simp -implicitDefEqProofs (maxSteps := 4000000) (disch := omega) only [go_sem, go_sem_proc, dr, Nat.min_def, ↓reduceIte]
              exact hfin
          · have e1 : valR nums o = bl o := by
              cases nums
              · cases o with
                | none => rfl
                | some z => exact absurd ⟨rfl, z, rfl⟩ hc
              · rfl
            rw [e1] at hV
            clear hc e1
            simp -implicitDefEqProofs (maxSteps := 4000000) (disch := omega) only [go_sem, go_sem_proc, dr, Nat.min_def, ↓reduceIte, hN, hV, h0', hTL]
            refine runs_for (fun i : Nat => (⟨[(0, .sl 1 (ints .u8 (2 :: zs))), (1, .int .i64 n), (2, .bool nums), (8, .pb 1048584 0), (9, .h 2097728), (12, .int .u64 ((m : Int) - i)), (13, bl o)], [(1048584, some ⟨true, .box [.sl 1 (ints .u8 B2), .bool b2]⟩), (2097728, some ⟨true, .row 28 1 (T ++ List.replicate i [bl o])⟩)], 1⟩ : St)) m ?_ ?_ ?_
            · simp -implicitDefEqProofs (maxSteps := 4000000) (disch := omega) only [go_sem, go_sem_proc, dr, Nat.min_def, ↓reduceIte, List.replicate_zero, List.append_nil, Int.sub_zero]
            · intro i hi
              have e1 : T ++ List.replicate i [bl o] ++ [[bl o]] = T ++ List.replicate (i + 1) [bl o] := by rw [List.replicate_succ', List.append_assoc]
              have e2 : (m : Int) - (i : Int) - 1 = (m : Int) - ((i : Int) + 1) := by omega
              have hWl : (T ++ List.replicate i [bl o]).length ≤ 65535 := by rw [List.length_append, List.length_replicate]; omega
              rw [← e1]
              generalize T ++ List.replicate i [bl o] = W at *
              clear next
              simp -implicitDefEqProofs (maxSteps := 4000000) (disch := omega) only [go_sem, go_sem_proc, dr, Nat.min_def, ↓reduceIte, e2]
            · have hfin := next _ rfl
              clear next
              simp -implicitDefEqProofs (maxSteps := 4000000) (disch := omega) only [go_sem, go_sem_proc, dr, Nat.min_def, ↓reduceIte, Int.sub_self]
              exact hfin
      · rw [if_neg hgo] at hu
        subst hu
        obtain ⟨B, bad⟩ := s
        obtain ⟨gn1, gn2, gn3⟩ := hgood out (B, bad) rfl
        have hT := rtell_spec (k := 2) (nums := nums) gn2
        have hf := fun t => rtell_len (nums := nums) (k := 2) (b := t) gn2
        have hS := short_spec (L := out) (by omega)
        dsimp only at hY
        have hjn : bad = false → n ≤ out.length := fun hb => by
          by_cases h : out.length < n
          · exact absurd ⟨h, hb⟩ hgo
          · omega
        unfold rs2
        dsimp only
        clear hgood hget hgo hG hg gn1
        obtain ⟨L, hLo⟩ : ∃ L, L = out := ⟨_, rfl⟩
        subst hLo
        cases bad with
        | true =>
          rw [if_neg (by rintro ⟨h, _⟩; cases h)] at hY
          subst hY
          clear hf hS hjn
          rcases Nat.lt_or_eq_of_le hol with hjl | hjl <;> cases hR : refTell nums 2 L <;> rw [hR] at hT <;> simp only [rtellR] at hT <;> simp -implicitDefEqProofs (maxSteps := 4000000) (disch := omega) only [go_sem, go_sem_proc, dr, Nat.min_def, ↓reduceIte, hT, List.length_cons, List.getElem?_cons_zero, List.length_map]
        | false =>
          have hjn' : (L.length : Int) = (n : Int) := by have := hjn rfl; omega
          cases hR : refTell nums 2 L with
          | none =>
            rw [hR] at hT hY
            rw [if_neg (by rintro ⟨_, h, _⟩; cases h)] at hY
            subst hY
            clear hf hS
            simp only [rtellR] at hT
            simp -implicitDefEqProofs (maxSteps := 4000000) (disch := omega) only [go_sem, go_sem_proc, dr, Nat.min_def, ↓reduceIte, hT, List.length_cons, List.getElem?_cons_zero, List.length_map, hjn']
          | some t =>
            obtain ⟨f1, f2, f3, _⟩ := hf t hR
            rw [hR] at hT hY
            simp only [rtellR] at hT
            have hq := toU8_beq f1 h8
            rw [List.map_cons] at hq
            by_cases hlen : L.length = n
            · have hln : ((L.length : Int) = (n : Int)) = True := eq_true (by omega)
              by_cases htb : t = 2 :: zs
              · rw [decide_eq_true htb] at hq
                cases nums with
                | true =>
                  rw [if_pos ⟨rfl, by rw [htb], hlen, .inl rfl⟩] at hY
                  subst hY
                  clear hf hS htb
                  simp -implicitDefEqProofs (maxSteps := 4000000) (disch := omega) only [go_sem, go_sem_proc, dr, Nat.min_def, ↓reduceIte, hT, hln, hq, List.length_cons, List.getElem?_cons_zero, List.length_map, hjn']
                  first | done | ((repeat' split) <;> (change _ = true; kernel_rfl))
                | false =>
                  cases hsh : shortO L with
                  | true =>
                    rw [if_pos ⟨rfl, by rw [htb], hlen, .inr hsh⟩] at hY
                    subst hY
                    rw [hsh] at hS
                    clear hf htb
                    simp -implicitDefEqProofs (maxSteps := 4000000) (disch := omega) only [go_sem, go_sem_proc, dr, Nat.min_def, ↓reduceIte, hT, hln, hq, hS, List.length_cons, List.getElem?_cons_zero, List.length_map, hjn']
                    first | done | ((repeat' split) <;> (change _ = true; kernel_rfl))
                  | false =>
                    rw [if_neg (by rintro ⟨_, _, _, h | h⟩; cases h; rw [hsh] at h; cases h)] at hY
                    subst hY
                    rw [hsh] at hS
                    clear hf htb
                    simp -implicitDefEqProofs (maxSteps := 4000000) (disch := omega) only [go_sem, go_sem_proc, dr, Nat.min_def, ↓reduceIte, hT, hln, hq, hS, List.length_cons, List.getElem?_cons_zero, List.length_map, hjn']
                    first | done | ((repeat' split) <;> (change _ = true; kernel_rfl))
              · rw [if_neg (by rintro ⟨_, h, _⟩; injection h with h; exact htb h)] at hY
                subst hY
                rw [decide_eq_false htb] at hq
                clear hf hS htb
                simp -implicitDefEqProofs (maxSteps := 4000000) (disch := omega) only [go_sem, go_sem_proc, dr, Nat.min_def, ↓reduceIte, hT, hln, hq, List.length_cons, List.getElem?_cons_zero, List.length_map, hjn']
                first | done | ((repeat' split) <;> (change _ = true; kernel_rfl))
            · exact absurd (by omega) hlen
end Go.Proofs.Ytmaehmacngldbaa.D
