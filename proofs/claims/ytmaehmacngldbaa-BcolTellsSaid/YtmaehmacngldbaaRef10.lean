/- The document's own columns: read of bytes: frames, lists of the unlike. -/
import Derived.Test.YtmaehmacngldbaaRef9
namespace Go.Proofs.Ytmaehmacngldbaa.D
open Go Go.Den
set_option linter.unusedSimpArgs false
set_option linter.unusedVariables false
set_option maxRecDepth 20000
set_option maxHeartbeats 8000000
theorem rtell_nils {k : Int} {nums : Bool} (h : k ≠ 1 ∧ k ≠ 2 ∧ k ≠ 4) : dw E 30 [.int .i64 k, .nils, .bool nums] [] = some (rtellR (refTell nums k []), []) := by
  obtain ⟨h1, h2, h4⟩ := h
  have e1 := eq_false h1
  have e2 := eq_false h2
  have e4 := eq_false h4
  by_cases h3 : k = 3
  · subst h3
    clear h1 h2 h4 e1 e2 e4
    cases nums
    · show dw E _ _ _ = some (.tup [.nils, .bool false], [])
      refine dw_in (fn := Try.f30) rfl body30 (by simp) ?_
      simp -implicitDefEqProofs (maxSteps := 4000000) (disch := omega) only [go_sem, go_sem_proc, dr, Nat.min_def, ↓reduceIte]
    · show dw E _ _ _ = some (.tup [.nr 5 1 (ints .u8 [3]), .bool true], [])
      refine dw_in (fn := Try.f30) rfl body30 (by simp) ?_
      simp -implicitDefEqProofs (maxSteps := 4000000) (disch := omega) only [go_sem, go_sem_proc, dr, Nat.min_def, ↓reduceIte]
  · have e3 := eq_false h3
    have e : refTell nums k [] = none := by simp [refTell, refBody, h1, h2, h3, h4]
    rw [e]
    clear h1 h2 h3 h4 e
    simp only [rtellR]
    refine dw_in (fn := Try.f30) rfl body30 (by simp) ?_
    simp -implicitDefEqProofs (maxSteps := 4000000) (disch := omega) only [go_sem, go_sem_proc, dr, Nat.min_def, ↓reduceIte, e1, e2, e3, e4]
theorem unpack_q {n c : Int} {zs w : List Int} (h : unpack n zs c = some w) : w.length = c.toNat ∧ 0 ≤ c ∧ c ≤ 65535 ∧ R64 w := by
  unfold unpack at h
  split at h
  · cases h
  · rename_i hc
    split at h
    · injection h with h
      subst h
      exact ⟨unpL_length _ _ _, by omega, by omega, unpL_R64 (heldN_le n) zs _⟩
    · cases h
theorem BS_tx (d : List Int) : BS (d.map fun u => some (tx u)) := fun o ho => by
  obtain ⟨x, _, rfl⟩ := List.mem_map.1 ho
  exact ⟨tx_R8 x, by show (tx x).length ≤ 64; rw [tx_len]; decide⟩
theorem get_o {k : Int} {zs : List Int} {n : Nat} {nums : Bool} (h8 : R8 (k :: zs)) (hk : (k ≠ 1 ∧ k ≠ 2 ∧ k ≠ 4) ∧ (k = 3 → n = 0)) (hl : zs.length ≤ 100000000) (hn : n ≤ 65535) : ∃ Y, dw E 31 [.sl 1 (ints .u8 (k :: zs)), .int .i64 n, .bool nums] [] = some (Y, []) ∧ GetR (refGet nums (k :: zs) n) Y := by
  obtain ⟨⟨h1, h2, h4⟩, h3⟩ := hk
  have hkr := h8 k (by simp)
  have hget : refGet nums (k :: zs) n = if refTell nums k [] = some (k :: zs) ∧ 0 = n then some [] else none := by
    unfold refGet
    simp only [Int.toNat_natCast]
    rw [if_pos (by omega)]
    have hraw : refRaw nums k zs n = some ([], (zs, false)) := by
      unfold refRaw
      rw [if_neg h1, if_neg h2, if_neg h4]
      by_cases h : k = 3
      · rw [if_pos h]; unfold refFr; rw [if_pos (h3 h)]
      · rw [if_neg h]
    rw [hraw]
    dsimp only
    by_cases hc : refTell nums k [] = some (k :: zs) ∧ 0 = n
    · rw [if_pos hc, if_pos ⟨rfl, hc.1, hc.2, .inr rfl⟩]
    · rw [if_neg hc, if_neg (fun h => hc ⟨h.2.1, h.2.2.1⟩)]
  rw [hget]
  have hT := rtell_nils (k := k) (nums := nums) ⟨h1, h2, h4⟩
  have hf := fun t => rtell_len (nums := nums) (k := k) (b := t) (L := []) (fun o ho => by simp at ho)
  have hS : dw E 25 [.nils] [] = some (.bool true, []) := by
    refine dw_in (fn := Try.f25) rfl body25 (by simp) ?_
    simp -implicitDefEqProofs (maxSteps := 4000000) (disch := omega) only [go_sem, go_sem_proc, dr, Nat.min_def, ↓reduceIte]
    refine runs_for (fun i : Nat => (⟨[(0, .nils), (3, .int .i64 0)], [], 1⟩ : St)) 0 ?_ (fun i h => absurd h (Nat.not_lt_zero i)) ?_
    · simp -implicitDefEqProofs (maxSteps := 4000000) (disch := omega) only [go_sem, go_sem_proc, dr, Nat.min_def, ↓reduceIte]
    · simp -implicitDefEqProofs (maxSteps := 4000000) (disch := omega) only [go_sem, go_sem_proc, dr, Nat.min_def, ↓reduceIte]
  obtain ⟨Y, hY⟩ : ∃ Y, Y = (if refTell nums k [] = some (k :: zs) ∧ 0 = n then PV.tup [.nils, .bool true] else .tup [.nils, .bool false]) := ⟨_, rfl⟩
  refine ⟨Y, ?_, ?_⟩
  rotate_left
  · rw [hY]
    split
    · exact ⟨_, .inr ⟨rfl, rfl⟩, rfl⟩
    · rfl
  have e1 := eq_false h1
  have e2 := eq_false h2
  have e4 := eq_false h4
  clear hget hl
  cases hR : refTell nums k [] with
  | none =>
    rw [hR] at hT hY
    rw [if_neg (by rintro ⟨h, _⟩; cases h)] at hY
    subst hY
    simp only [rtellR] at hT
    clear hf hS hR h8
    by_cases hk3 : k = 3
    · subst hk3
      obtain rfl := h3 rfl
      clear e1 e2 e4 h1 h2 h4 h3
      refine dw_in (fn := Try.f31) rfl body31 (by simp) ?_
      simp -implicitDefEqProofs (maxSteps := 4000000) (disch := omega) only [go_sem, go_sem_proc, dr, Nat.min_def, ↓reduceIte, List.length_cons, List.getElem?_cons_zero, List.drop_succ_cons, List.drop_zero, hT]
    · have e3 := eq_false hk3
      clear h1 h2 h4 h3 hk3
      refine dw_in (fn := Try.f31) rfl body31 (by simp) ?_
      simp -implicitDefEqProofs (maxSteps := 4000000) (disch := omega) only [go_sem, go_sem_proc, dr, Nat.min_def, ↓reduceIte, List.length_cons, List.getElem?_cons_zero, List.drop_succ_cons, List.drop_zero, hT, e1, e2, e3, e4]
  | some t =>
    have hk3 : k = 3 := by
      refine Classical.byContradiction fun hk3 => ?_
      simp [refTell, refBody, h1, h2, hk3, h4] at hR
    subst hk3
    obtain rfl := h3 rfl
    obtain ⟨f1, f2, f3, _⟩ := hf t hR
    rw [hR] at hT hY
    simp only [rtellR] at hT
    have hq := toU8_beq f1 h8
    rw [List.map_cons] at hq
    clear e1 e2 e4 h1 h2 h4 h3 hf hR h8
    by_cases htb : t = 3 :: zs
    · rw [decide_eq_true htb] at hq
      rw [if_pos ⟨by rw [htb], rfl⟩] at hY
      subst hY
      clear htb
      cases nums <;> (refine dw_in (fn := Try.f31) rfl body31 (by simp) ?_) <;> simp -implicitDefEqProofs (maxSteps := 4000000) (disch := omega) only [go_sem, go_sem_proc, dr, Nat.min_def, ↓reduceIte, List.length_cons, List.getElem?_cons_zero, List.drop_succ_cons, List.drop_zero, hT, hq, hS]
      all_goals first | done | ((repeat' split) <;> (change _ = true; kernel_rfl))
    · rw [decide_eq_false htb] at hq
      rw [if_neg (by rintro ⟨h, _⟩; injection h with h; exact htb h)] at hY
      subst hY
      clear htb
      cases nums <;> (refine dw_in (fn := Try.f31) rfl body31 (by simp) ?_) <;> simp -implicitDefEqProofs (maxSteps := 4000000) (disch := omega) only [go_sem, go_sem_proc, dr, Nat.min_def, ↓reduceIte, List.length_cons, List.getElem?_cons_zero, List.drop_succ_cons, List.drop_zero, hT, hq]
      all_goals first | done | ((repeat' split) <;> (change _ = true; kernel_rfl))
theorem get_3 {zs : List Int} {n : Nat} {nums : Bool} (h8 : R8 (3 :: zs)) (hl : zs.length ≤ 100000000) (hn0 : 0 < n) (hn : n ≤ 65535) : ∃ Y, dw E 31 [.sl 1 (ints .u8 (3 :: zs)), .int .i64 n, .bool nums] [] = some (Y, []) ∧ GetR (refGet nums (3 :: zs) n) Y := by
  have hG : GS (zs, false) := ⟨fun z hz => h8 z (by simp [hz]), by dsimp only; omega⟩
  have hget : refGet nums (3 :: zs) n = match refFr n (zs, false) with | none => none | some (out, s) => if s.2 = false ∧ refTell nums 3 out = some (3 :: zs) ∧ out.length = n ∧ (nums = true ∨ shortO out = true) then some out else none := by
    unfold refGet
    simp only [Int.toNat_natCast]
    rw [if_pos (by omega)]
    rfl
  rw [hget]
  have hN := RS_num hG
  obtain ⟨g1, g2, g3, _⟩ := rnumS_good hG
  have hZ := RefZag_spec g2 g3
  have hzr : -9223372036854775808 ≤ zag (rnumS (zs, false)).1 ∧ zag (rnumS (zs, false)).1 < 9223372036854775808 := by unfold zag; split <;> omega
  have hFr : refFr n (zs, false) = match (rnumS (zs, false)).2 with
    | (_, true) => none
    | ([], false) => none
    | (w :: r, false) => if 64 < w then none else (unpack w r n).map fun d => (d.map fun u => some (tx (wr64 (zag (rnumS (zs, false)).1 + u))), (rnumS (zs, false)).2) := by
    unfold refFr
    rw [if_neg (by omega)]
    rfl
  rw [hFr]
  clear hget hFr hG
  generalize rnumS (zs, false) = p at *
  obtain ⟨v, B, bad⟩ := p
  dsimp only at *
  generalize zag v = z at *
  unfold rs2 at hN
  dsimp only at hN
  cases bad with
  | true =>
    refine ⟨.tup [.nils, .bool false], ?_, by cases B <;> rfl⟩
    clear h8 g1
    refine dw_in (fn := Try.f31) rfl body31 (by simp) ?_
    simp -implicitDefEqProofs (maxSteps := 4000000) (disch := omega) only [go_sem, go_sem_proc, dr, Nat.min_def, ↓reduceIte, List.length_cons, List.getElem?_cons_zero, List.drop_succ_cons, List.drop_zero, hN, hZ]
  | false =>
    cases B with
    | nil =>
      refine ⟨.tup [.nils, .bool false], ?_, rfl⟩
      clear h8 g1
      refine dw_in (fn := Try.f31) rfl body31 (by simp) ?_
      simp -implicitDefEqProofs (maxSteps := 4000000) (disch := omega) only [go_sem, go_sem_proc, dr, Nat.min_def, ↓reduceIte, List.length_cons, List.getElem?_cons_zero, List.drop_succ_cons, List.drop_zero, hN, hZ, List.length_nil]
    | cons w r =>
      have hw := g1.1 w (by simp)
      have hrl : r.length ≤ 1000000000 := by have := g1.2; simp only [List.length_cons] at this; omega
      dsimp only
      by_cases hw64 : 64 < w
      · rw [if_pos hw64]
        refine ⟨.tup [.nils, .bool false], ?_, rfl⟩
        clear h8 g1
        refine dw_in (fn := Try.f31) rfl body31 (by simp) ?_
        simp -implicitDefEqProofs (maxSteps := 4000000) (disch := omega) only [go_sem, go_sem_proc, dr, Nat.min_def, ↓reduceIte, List.length_cons, List.getElem?_cons_zero, List.drop_succ_cons, List.drop_zero, hN, hZ]
      · rw [if_neg hw64]
        have hU := RUnpack_spec (zs := r) (n := w) (c := n) (fun z hz => g1.1 z (by simp [hz])) (by omega)
        cases hun : unpack w r n with
        | none =>
          rw [hun] at hU
          simp only [resU] at hU
          refine ⟨.tup [.nils, .bool false], ?_, rfl⟩
          clear h8 g1 hun
          refine dw_in (fn := Try.f31) rfl body31 (by simp) ?_
          simp -implicitDefEqProofs (maxSteps := 4000000) (disch := omega) only [go_sem, go_sem_proc, dr, Nat.min_def, ↓reduceIte, List.length_cons, List.getElem?_cons_zero, List.drop_succ_cons, List.drop_zero, hN, hZ, hU]
          first | done | ((repeat' split) <;> (change _ = true; kernel_rfl))
        | some d =>
          obtain ⟨d1, d2, d3, d4⟩ := unpack_q hun
          rw [hun] at hU
          simp only [resU] at hU
          simp only [Option.map_some]
          have gn2 : BS (d.map fun u => some (tx (wr64 (z + u)))) := fun o ho => by
            obtain ⟨x, _, rfl⟩ := List.mem_map.1 ho
            exact ⟨tx_R8 _, by show (tx _).length ≤ 64; rw [tx_len]; decide⟩
          have hT := rtell_spec (k := 3) (nums := nums) gn2
          have hf := fun t => rtell_len (nums := nums) (k := 3) (b := t) gn2
          have hS := short_spec (L := d.map fun u => some (tx (wr64 (z + u)))) (by rw [List.length_map]; omega)
          have hLn : (d.map fun u => some (tx (wr64 (z + u)))).length = n := by rw [List.length_map]; omega
          obtain ⟨L, hL⟩ : ∃ L, L = d.map fun u => some (tx (wr64 (z + u))) := ⟨_, rfl⟩
          rw [← hL] at hT hf hS hLn ⊢
          obtain ⟨bad, hbd⟩ : ∃ b, b = false := ⟨_, rfl⟩
          obtain ⟨Y, hY⟩ : ∃ Y, Y = (if bad = false ∧ refTell nums 3 L = some (3 :: zs) ∧ L.length = n ∧ (nums = true ∨ shortO L = true) then PV.tup [.nr 28 1 (L.map brow), .bool true] else .tup [.nils, .bool false]) := ⟨_, rfl⟩
          subst hbd
          refine ⟨Y, ?_, ?_⟩
          rotate_left
          · rw [hY]
            try dsimp only
            by_cases hc : false = false ∧ refTell nums 3 L = some (3 :: zs) ∧ L.length = n ∧ (nums = true ∨ shortO L = true)
            · rw [if_pos hc, if_pos ⟨trivial, hc.2⟩]; exact ⟨_, .inl rfl, rfl⟩
            · rw [if_neg hc, if_neg (fun h => hc ⟨rfl, h.2⟩)]; rfl
          obtain ⟨C, hC⟩ : ∃ C : Int, (d.length : Int) = C := ⟨_, rfl⟩
          clear g1 hun gn2
          refine dw_in (fn := Try.f31) rfl body31 (by simp) ?_
          simp -implicitDefEqProofs (maxSteps := 4000000) (disch := omega) only [go_sem, go_sem_proc, dr, Nat.min_def, ↓reduceIte, List.length_cons, List.getElem?_cons_zero, List.drop_succ_cons, List.drop_zero, hN, hZ, hU]
          try refine ⟨by ((repeat' split) <;> (change _ = true; kernel_rfl)), ?_⟩
          refine runs_for (fun i : Nat => (⟨[(0, .sl 1 (ints .u8 (3 :: zs))), (1, .int .i64 n), (2, .bool nums), (8, .pb 1048584 0), (9, .h 2097728), (14, .int .i64 z), (15, .h 2098112), (17, .int .i64 i)], [(1048584, some ⟨true, .box [.sl 1 (ints .u8 (w :: r)), .bool false]⟩), (2097728, some ⟨true, .row 28 1 (((d.take i).map fun u => some (tx (wr64 (z + u)))).map brow)⟩), (2098112, some ⟨true, .row 58 1 (ints .u64 d)⟩)], 1⟩ : St)) d.length ?_ ?_ ?_
          · clear hT hf hS hY h8 hL
            simp -implicitDefEqProofs (maxSteps := 4000000) (disch := omega) only [go_sem, go_sem_proc, dr, Nat.min_def, ↓reduceIte, List.take_zero, List.map_nil]
          · intro i hi
            obtain ⟨u, hu, hm, ht⟩ := take_get hi
            have hur := d4 u hm
            have hc : ((z % 18446744073709551616 + u) % 18446744073709551616 + 9223372036854775808) % 18446744073709551616 - 9223372036854775808 = wr64 (z + u) := by unfold wr64; omega
            have hTx := texts_sl (l := [wr64 (z + u)]) (fun y hy => by rw [List.mem_singleton.1 hy]; unfold wr64; omega) (by simp)
            have e4 : ([wr64 (z + u)].map fun x => some (tx x)).map brow = [[.sl 1 (ints .u8 (tx (wr64 (z + u))))]] := rfl
            rw [e4] at hTx
            rw [ht, List.map_append, List.map_append]
            have e5 : ([u].map fun u => some (tx (wr64 (z + u)))).map brow = [[.sl 1 (ints .u8 (tx (wr64 (z + u))))]] := rfl
            rw [e5]
            have hol : (((d.take i).map fun u => some (tx (wr64 (z + u)))).map brow).length ≤ 65535 := by rw [List.length_map, List.length_map, List.length_take]; omega
            have hiC : (i : Int) < C := by omega
            generalize ((d.take i).map fun u => some (tx (wr64 (z + u)))).map brow = out at *
            generalize wr64 (z + u) = x at *
            generalize tx x = q at *
            clear hT hf hS hY h8 hL hN hZ hU ht e4 e5
            simp -implicitDefEqProofs (maxSteps := 4000000) (disch := omega) only [go_sem, go_sem_proc, dr, Nat.min_def, ↓reduceIte, hC, hu, hc, hTx]
          · rw [List.take_length, ← hL]
            clear hL hN hZ hU hzr d1 d2 d3 d4
            have hjn' : (L.length : Int) = (n : Int) := by omega
            cases hR : refTell nums 3 L with
            | none =>
              rw [hR] at hT hY
              rw [if_neg (by rintro ⟨_, h, _⟩; cases h)] at hY
              subst hY
              clear hf hS
              simp only [rtellR] at hT
              simp -implicitDefEqProofs (maxSteps := 4000000) (disch := omega) only [go_sem, go_sem_proc, dr, Nat.min_def, ↓reduceIte, hT, List.length_cons, List.getElem?_cons_zero, List.length_map, hjn']
            | some t =>
              obtain ⟨f1, f2, f3, _⟩ := hf t hR
              rw [hR] at hT hY
              simp only [rtellR] at hT
              have hq := toU8_beq f1 h8
              rw [List.map_cons] at hq
              by_cases hlen : L.length = n
              · have hln : ((L.length : Int) = (n : Int)) = True := eq_true (by omega)
                by_cases htb : t = 3 :: zs
                · rw [decide_eq_true htb] at hq
                  cases nums with
                  | true =>
                    rw [if_pos ⟨rfl, by rw [htb], hlen, .inl rfl⟩] at hY
                    subst hY
                    clear hf hS htb
                    simp -implicitDefEqProofs (maxSteps := 4000000) (disch := omega) only [go_sem, go_sem_proc, dr, Nat.min_def, ↓reduceIte, hT, hln, hq, List.length_cons, List.getElem?_cons_zero, List.length_map, hjn']
                    first | done | ((repeat' split) <;> (change _ = true; kernel_rfl))
                  | false =>
                    cases hsh : shortO L with
                    | true =>
                      rw [if_pos ⟨rfl, by rw [htb], hlen, .inr hsh⟩] at hY
                      subst hY
                      rw [hsh] at hS
                      clear hf htb
                      simp -implicitDefEqProofs (maxSteps := 4000000) (disch := omega) only [go_sem, go_sem_proc, dr, Nat.min_def, ↓reduceIte, hT, hln, hq, hS, List.length_cons, List.getElem?_cons_zero, List.length_map, hjn']
                      first | done | ((repeat' split) <;> (change _ = true; kernel_rfl))
                    | false =>
                      rw [if_neg (by rintro ⟨_, _, _, h | h⟩; cases h; rw [hsh] at h; cases h)] at hY
                      subst hY
                      rw [hsh] at hS
                      clear hf htb
                      simp -implicitDefEqProofs (maxSteps := 4000000) (disch := omega) only [go_sem, go_sem_proc, dr, Nat.min_def, ↓reduceIte, hT, hln, hq, hS, List.length_cons, List.getElem?_cons_zero, List.length_map, hjn']
                      first | done | ((repeat' split) <;> (change _ = true; kernel_rfl))
                · rw [if_neg (by rintro ⟨_, h, _⟩; injection h with h; exact htb h)] at hY
                  subst hY
                  rw [decide_eq_false htb] at hq
                  clear hf hS htb
                  simp -implicitDefEqProofs (maxSteps := 4000000) (disch := omega) only [go_sem, go_sem_proc, dr, Nat.min_def, ↓reduceIte, hT, hln, hq, List.length_cons, List.getElem?_cons_zero, List.length_map, hjn']
                  first | done | ((repeat' split) <;> (change _ = true; kernel_rfl))
              · exact absurd (by omega) hlen
end Go.Proofs.Ytmaehmacngldbaa.D
