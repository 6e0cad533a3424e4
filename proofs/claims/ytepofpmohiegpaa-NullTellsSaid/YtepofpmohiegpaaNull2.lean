/- Bools read off bytes. -/
import Derived.Test.YtepofpmohiegpaaNull1
namespace Go.Proofs.Ytepofpmohiegpaa.D
open Go Go.Den
set_option linter.unusedSimpArgs false
set_option maxRecDepth 20000
set_option maxHeartbeats 4000000
theorem mixed_short {zs : List Int} {n : Nat} (hn : n ≤ 65535) (h : zs.length < (n + 7) / 8) : dw E 41 [.sl 1 (ints .u8 zs), .int .i64 n] [] = some (.tup [.nils, .bool false], []) := by
  refine dw_intro (fn := Try.f41) rfl rfl (by decide) ?_
  have e1 : ((n : Int) + 7 + 9223372036854775808) % 18446744073709551616 - 9223372036854775808 = ((n + 7 : Nat) : Int) := by omega
  have e2 : (((n + 7) / 8 : Nat) + 9223372036854775808 : Int) % 18446744073709551616 - 9223372036854775808 = (((n + 7) / 8 : Nat) : Int) := by omega
  have e3 : (zs.length : Int) < (((n + 7) / 8 : Nat) : Int) := by omega
  simp -implicitDefEqProofs only [go_sem, ↓reduceIte, reduceCtorEq, reduceDIte, Nat.reduceAdd, Nat.reduceMul, Nat.reduceSub, Nat.reduceBEq, Nat.reduceBNe, Nat.reduceBeqDiff, Nat.reduceLT, Nat.reduceLeDiff, Nat.reduceEqDiff, Nat.reduceDiv, Nat.reduceMod, Nat.reducePow, Int.reduceLT, Int.reduceLE, Int.reduceGT, Int.reduceGE, Int.reduceEq, Int.reduceNe, Int.reduceToNat, Int.reduceNeg, Int.reducePow, Int.reduceAdd, Int.reduceMul, Int.reduceSub, Int.reduceBEq, Int.reduceMod, Int.reduceDiv, Int.reduceNatCast, Nat.min_def, e1, tdiv8, e2, e3]
theorem mixed_spec {zs : List Int} {n : Nat} (h8 : R8 zs) (hn : n ≤ 65535) (h : (n + 7) / 8 ≤ zs.length) (hz : zs.length ≤ 1000000000000) : dw E 41 [.sl 1 (ints .u8 zs), .int .i64 n] [] =
    some (.tup [.nr 4 1 (bools ((mixedN zs n).getD [])), .bool (mixedN zs n).isSome], []) := by
  refine dw_intro (fn := Try.f41) rfl rfl (by decide) ?_
  have e1 : ((n : Int) + 7 + 9223372036854775808) % 18446744073709551616 - 9223372036854775808 = ((n + 7 : Nat) : Int) := by omega
  have e2 : (((n + 7) / 8 : Nat) + 9223372036854775808 : Int) % 18446744073709551616 - 9223372036854775808 = (((n + 7) / 8 : Nat) : Int) := by omega
  have e3 : ¬ (zs.length : Int) < (((n + 7) / 8 : Nat) : Int) := by omega
  have e4 : 0 ≤ (((n + 7) / 8 : Nat) : Int) := by omega
  have e5 : (((n + 7) / 8 : Nat) : Int) ≤ zs.length := by omega
  have hU := Unpack_spec (zs := zs.take ((n + 7) / 8)) (n := 1) (c := (n : Int)) (h8.take _) (by rw [List.length_take]; omega)
  have hm : mixedN zs n = match unpack 1 (zs.take ((n + 7) / 8)) n with | some ws => some (ws.map fun u => decide (u = 1)) | none => none := by
    unfold mixedN; rw [if_neg (by omega)]; rfl
  rw [hm]
  cases hu : unpack 1 (zs.take ((n + 7) / 8)) n with
  | none =>
    rw [hu] at hU
    simp -implicitDefEqProofs only [go_sem, ↓reduceIte, reduceCtorEq, reduceDIte, Nat.reduceAdd, Nat.reduceMul, Nat.reduceSub, Nat.reduceBEq, Nat.reduceBNe, Nat.reduceBeqDiff, Nat.reduceLT, Nat.reduceLeDiff, Nat.reduceEqDiff, Nat.reduceDiv, Nat.reduceMod, Nat.reducePow, Int.reduceLT, Int.reduceLE, Int.reduceGT, Int.reduceGE, Int.reduceEq, Int.reduceNe, Int.reduceToNat, Int.reduceNeg, Int.reducePow, Int.reduceAdd, Int.reduceMul, Int.reduceSub, Int.reduceBEq, Int.reduceMod, Int.reduceDiv, Int.reduceNatCast, Nat.min_def, e1, tdiv8, e2, e3, e4, e5, hU, resU]
    refine runs_loop (fun _ : Unit => (⟨[(8, .bool false), (9, .h 2097728), (27, .nils), (28, .int .i64 0), (29, .int .i64 0)], [(2097728, some ⟨true, .row 4 1 []⟩)], 1⟩ : St)) (fun _ => 0) () ?_ (fun _ => True) trivial ?_
    · simp -implicitDefEqProofs only [go_sem, ↓reduceIte, reduceCtorEq, reduceDIte, Nat.reduceAdd, Nat.reduceMul, Nat.reduceSub, Nat.reduceBEq, Nat.reduceBNe, Nat.reduceBeqDiff, Nat.reduceLT, Nat.reduceLeDiff, Nat.reduceEqDiff, Nat.reduceDiv, Nat.reduceMod, Nat.reducePow, Int.reduceLT, Int.reduceLE, Int.reduceGT, Int.reduceGE, Int.reduceEq, Int.reduceNe, Int.reduceToNat, Int.reduceNeg, Int.reducePow, Int.reduceAdd, Int.reduceMul, Int.reduceSub, Int.reduceBEq, Int.reduceMod, Int.reduceDiv, Int.reduceNatCast, Nat.min_def]
    · intro _ _
      simp -implicitDefEqProofs only [go_sem, ↓reduceIte, reduceCtorEq, reduceDIte, Nat.reduceAdd, Nat.reduceMul, Nat.reduceSub, Nat.reduceBEq, Nat.reduceBNe, Nat.reduceBeqDiff, Nat.reduceLT, Nat.reduceLeDiff, Nat.reduceEqDiff, Nat.reduceDiv, Nat.reduceMod, Nat.reducePow, Int.reduceLT, Int.reduceLE, Int.reduceGT, Int.reduceGE, Int.reduceEq, Int.reduceNe, Int.reduceToNat, Int.reduceNeg, Int.reducePow, Int.reduceAdd, Int.reduceMul, Int.reduceSub, Int.reduceBEq, Int.reduceMod, Int.reduceDiv, Int.reduceNatCast, Nat.min_def]
      rfl
  | some ws =>
    rw [hu] at hU
    have hws : ws.length ≤ 65535 := by
      unfold unpack at hu
      split at hu
      · cases hu
      · split at hu
        · injection hu with hu
          rw [← hu, unpL_length]; omega
        · cases hu
    simp -implicitDefEqProofs only [go_sem, ↓reduceIte, reduceCtorEq, reduceDIte, Nat.reduceAdd, Nat.reduceMul, Nat.reduceSub, Nat.reduceBEq, Nat.reduceBNe, Nat.reduceBeqDiff, Nat.reduceLT, Nat.reduceLeDiff, Nat.reduceEqDiff, Nat.reduceDiv, Nat.reduceMod, Nat.reducePow, Int.reduceLT, Int.reduceLE, Int.reduceGT, Int.reduceGE, Int.reduceEq, Int.reduceNe, Int.reduceToNat, Int.reduceNeg, Int.reducePow, Int.reduceAdd, Int.reduceMul, Int.reduceSub, Int.reduceBEq, Int.reduceMod, Int.reduceDiv, Int.reduceNatCast, Nat.min_def, e1, tdiv8, e2, e3, e4, e5, hU, resU]
    refine runs_loop (fun i : Nat => (⟨[(8, .bool true), (9, .h 2097728), (27, .h 2098880), (28, .int .i64 ws.length), (29, .int .i64 i)], [(2097728, some ⟨true, .row 4 1 (bools ((ws.take i).map fun u => decide (u = 1)))⟩), (2098880, some ⟨true, .row 73 1 (ints .u64 ws)⟩)], 1⟩ : St)) (fun i => ws.length - i) 0 ?_
      (fun i => i ≤ ws.length) (by omega) ?_
    · simp -implicitDefEqProofs only [go_sem, ↓reduceIte, reduceCtorEq, reduceDIte, Nat.reduceAdd, Nat.reduceMul, Nat.reduceSub, Nat.reduceBEq, Nat.reduceBNe, Nat.reduceBeqDiff, Nat.reduceLT, Nat.reduceLeDiff, Nat.reduceEqDiff, Nat.reduceDiv, Nat.reduceMod, Nat.reducePow, Int.reduceLT, Int.reduceLE, Int.reduceGT, Int.reduceGE, Int.reduceEq, Int.reduceNe, Int.reduceToNat, Int.reduceNeg, Int.reducePow, Int.reduceAdd, Int.reduceMul, Int.reduceSub, Int.reduceBEq, Int.reduceMod, Int.reduceDiv, Int.reduceNatCast, Nat.min_def]
      rfl
    · intro i hi
      by_cases hlt : i < ws.length
      · obtain ⟨u, hb⟩ : ∃ b, ws[i]? = some b := ⟨_, List.getElem?_eq_getElem hlt⟩
        have hlt' : (i : Int) < ws.length := by omega
        have ei : 0 ≤ (i : Int) := by omega
        have en : ((i : Int) + 1 + 9223372036854775808) % 18446744073709551616 - 9223372036854775808 = ((i + 1 : Nat) : Int) := by omega
        have ht : ws.take (i + 1) = ws.take i ++ [u] := by rw [List.take_add_one, hb]; rfl
        have hlim : ((ws.take i).length + 1) * 2 ≤ 70368744177664 := by rw [List.length_take]; omega
        simp -implicitDefEqProofs only [go_sem, ↓reduceIte, reduceCtorEq, reduceDIte, Nat.reduceAdd, Nat.reduceMul, Nat.reduceSub, Nat.reduceBEq, Nat.reduceBNe, Nat.reduceBeqDiff, Nat.reduceLT, Nat.reduceLeDiff, Nat.reduceEqDiff, Nat.reduceDiv, Nat.reduceMod, Nat.reducePow, Int.reduceLT, Int.reduceLE, Int.reduceGT, Int.reduceGE, Int.reduceEq, Int.reduceNe, Int.reduceToNat, Int.reduceNeg, Int.reducePow, Int.reduceAdd, Int.reduceMul, Int.reduceSub, Int.reduceBEq, Int.reduceMod, Int.reduceDiv, Int.reduceNatCast, Nat.min_def, hlt', ei, hb, en, hlim, hlt]
        exact ⟨i + 1, by omega, by omega, by rw [ht, List.map_append]; rfl⟩
      · have hlt' : ¬ (i : Int) < ws.length := by omega
        have hte : ws.take i = ws := List.take_of_length_le (by omega)
        rw [hte]
        simp -implicitDefEqProofs only [go_sem, ↓reduceIte, reduceCtorEq, reduceDIte, Nat.reduceAdd, Nat.reduceMul, Nat.reduceSub, Nat.reduceBEq, Nat.reduceBNe, Nat.reduceBeqDiff, Nat.reduceLT, Nat.reduceLeDiff, Nat.reduceEqDiff, Nat.reduceDiv, Nat.reduceMod, Nat.reducePow, Int.reduceLT, Int.reduceLE, Int.reduceGT, Int.reduceGE, Int.reduceEq, Int.reduceNe, Int.reduceToNat, Int.reduceNeg, Int.reducePow, Int.reduceAdd, Int.reduceMul, Int.reduceSub, Int.reduceBEq, Int.reduceMod, Int.reduceDiv, Int.reduceNatCast, Nat.min_def, hlt']
/-- what bools are told with -/
def resD : Option (List Bool × List Int) → PV
  | some (l, r) => .tup [.nr 4 1 (bools l), .nr 5 1 (ints .u8 r), .bool true]
  | none => .tup [.nils, .nils, .bool false]
theorem tellN_len {t : Int} {b : List Int} {n : Nat} {l : List Bool} (hn : n ≤ 65535) (h : tellN t b n = some l) : l.length ≤ 65535 := by
  unfold tellN at h
  split at h
  · injection h with h; subst h; simpa using hn
  · split at h
    · injection h with h; subst h; simpa using hn
    · split at h
      · unfold mixedN at h
        split at h
        · cases h
        · split at h
          · rename_i ws hu
            injection h with h
            subst h
            unfold unpack at hu
            split at hu
            · cases hu
            · split at hu
              · injection hu with hu
                rw [List.length_map, ← hu, unpL_length]; omega
              · cases hu
          · cases h
      · cases h
theorem Decode_spec {zs : List Int} (h8 : R8 zs) (hz : zs.length ≤ 1000000) : dw E 18 [.sl 1 (ints .u8 zs)] [] = some (resD (decN zs), []) := by
  refine dw_intro (fn := Try.f18) rfl rfl (by decide) ?_
  have hR := RNum_sl (b := false) h8 (by omega)
  cases hp : pnum 0 0 zs with
  | none =>
    rw [hp] at hR
    have hDT : decN zs = none := by unfold decN; rw [hp]
    simp -implicitDefEqProofs only [go_sem, ↓reduceIte, reduceCtorEq, reduceDIte, Nat.reduceAdd, Nat.reduceMul, Nat.reduceSub, Nat.reduceBEq, Nat.reduceBNe, Nat.reduceBeqDiff, Nat.reduceLT, Nat.reduceLeDiff, Nat.reduceEqDiff, Nat.reduceDiv, Nat.reduceMod, Nat.reducePow, Int.reduceLT, Int.reduceLE, Int.reduceGT, Int.reduceGE, Int.reduceEq, Int.reduceNe, Int.reduceToNat, Int.reduceNeg, Int.reducePow, Int.reduceAdd, Int.reduceMul, Int.reduceSub, Int.reduceBEq, Int.reduceMod, Int.reduceDiv, Int.reduceNatCast, Nat.min_def, Read_sl (zs := zs) (by omega), hR, readN, Rest_nils, Ok_nils, hDT, resD]
  | some x =>
    obtain ⟨v, r⟩ := x
    rw [hp] at hR
    have hv0 := pnum_nonneg hp (by decide)
    have hrl := pnum_len hp
    have hr8 := pnum_R8 hp h8
    obtain ⟨n, rfl⟩ := Int.eq_ofNat_of_zero_le hv0
    by_cases hn : 65535 < n
    · have hn' : 65535 < (n : Int) := by omega
      have hDT : decN zs = none := by unfold decN; rw [hp]; dsimp only; rw [if_pos hn']
      simp -implicitDefEqProofs only [go_sem, ↓reduceIte, reduceCtorEq, reduceDIte, Nat.reduceAdd, Nat.reduceMul, Nat.reduceSub, Nat.reduceBEq, Nat.reduceBNe, Nat.reduceBeqDiff, Nat.reduceLT, Nat.reduceLeDiff, Nat.reduceEqDiff, Nat.reduceDiv, Nat.reduceMod, Nat.reducePow, Int.reduceLT, Int.reduceLE, Int.reduceGT, Int.reduceGE, Int.reduceEq, Int.reduceNe, Int.reduceToNat, Int.reduceNeg, Int.reducePow, Int.reduceAdd, Int.reduceMul, Int.reduceSub, Int.reduceBEq, Int.reduceMod, Int.reduceDiv, Int.reduceNatCast, Nat.min_def, Read_sl (zs := zs) (by omega), hR, readN, Rest_sl (zs := r) (by omega), Ok_sl, hn', hDT, resD]
    · have hn' : ¬ 65535 < (n : Int) := by omega
      cases r with
      | nil =>
        have hDT : decN zs = none := by unfold decN; rw [hp]; dsimp only; rw [if_neg hn']
        simp -implicitDefEqProofs only [go_sem, ↓reduceIte, reduceCtorEq, reduceDIte, Nat.reduceAdd, Nat.reduceMul, Nat.reduceSub, Nat.reduceBEq, Nat.reduceBNe, Nat.reduceBeqDiff, Nat.reduceLT, Nat.reduceLeDiff, Nat.reduceEqDiff, Nat.reduceDiv, Nat.reduceMod, Nat.reducePow, Int.reduceLT, Int.reduceLE, Int.reduceGT, Int.reduceGE, Int.reduceEq, Int.reduceNe, Int.reduceToNat, Int.reduceNeg, Int.reducePow, Int.reduceAdd, Int.reduceMul, Int.reduceSub, Int.reduceBEq, Int.reduceMod, Int.reduceDiv, Int.reduceNatCast, Nat.min_def, Read_sl (zs := zs) (by omega), hR, readN, Rest_sl (zs := []) (by decide), Ok_sl, hn', hDT, resD]
      | cons t b =>
        have hlen : (t :: b).length = b.length + 1 := rfl
        have hlr : (((b.length + 1 : Nat) : Int) = 0) = False := eq_false (by omega)
        have hpos : 0 < b.length + 1 := Nat.succ_pos _
        have g1 : 0 ≤ (n : Int) := by omega
        have g2 : (n : Int) * 2 ≤ 70368744177664 := by omega
        rw [hlen] at hrl
        have hDT : decN zs = match tellN t b n with | none => none | some l => if (encN l).length ≤ zs.length ∧ encN l = zs.take (encN l).length then some (l, zs.drop (encN l).length) else none := by
          unfold decN; rw [hp]; dsimp only; rw [if_neg hn', Int.toNat_natCast]; rfl
        by_cases t0 : t = 0
        · have q0 := eq_true t0
          have hT : tellN t b n = some (List.replicate n false) := by rw [tellN, if_pos t0]
          have hL : (List.replicate n false).length ≤ 65535 := by rw [List.length_replicate]; omega
          rw [hT] at hDT
          dsimp only at hDT
          have hE := Encode_spec (l := List.replicate n false) hL
          have hE8 := encN_R8 (List.replicate n false) hL
          have hEl := encN_len (List.replicate n false) hL
          by_cases hA : (encN (List.replicate n false)).length ≤ zs.length
          · have a1 : ¬ (zs.length : Int) < ((encN (List.replicate n false)).length : Int) := by omega
            have a2 : 0 ≤ ((encN (List.replicate n false)).length : Int) := by omega
            have a3 : ((encN (List.replicate n false)).length : Int) ≤ zs.length := by omega
            have hEq := Equal_sl hE8 (h8.take (encN (List.replicate n false)).length)
            have hcl := cloneF_sl (k := .u8) 5 1 (zs.drop (encN (List.replicate n false)).length) (by rw [List.length_drop]; omega)
            by_cases hB : encN (List.replicate n false) = zs.take (encN (List.replicate n false)).length
            · have qB := eq_true hB
              have hRR : (if (encN (List.replicate n false)).length ≤ zs.length ∧ encN (List.replicate n false) = zs.take (encN (List.replicate n false)).length then some (List.replicate n false, zs.drop (encN (List.replicate n false)).length) else none) = some (List.replicate n false, zs.drop (encN (List.replicate n false)).length) := if_pos ⟨hA, hB⟩
              rw [hRR] at hDT
              simp -implicitDefEqProofs only [go_sem, ↓reduceIte, reduceCtorEq, reduceDIte, Nat.reduceAdd, Nat.reduceMul, Nat.reduceSub, Nat.reduceBEq, Nat.reduceBNe, Nat.reduceBeqDiff, Nat.reduceLT, Nat.reduceLeDiff, Nat.reduceEqDiff, Nat.reduceDiv, Nat.reduceMod, Nat.reducePow, Int.reduceLT, Int.reduceLE, Int.reduceGT, Int.reduceGE, Int.reduceEq, Int.reduceNe, Int.reduceToNat, Int.reduceNeg, Int.reducePow, Int.reduceAdd, Int.reduceMul, Int.reduceSub, Int.reduceBEq, Int.reduceMod, Int.reduceDiv, Int.reduceNatCast, Nat.min_def, Read_sl (zs := zs) (by omega), hR, readN, Rest_sl (zs := t :: b) (by omega), Ok_sl, hn', hlr, hpos, g1, g2, Int.le_refl, q0, hE, a1, a2, a3, hEq, qB, hcl, hDT, resD]
              change _ = true
              kernel_rfl
            · have hRR : (if (encN (List.replicate n false)).length ≤ zs.length ∧ encN (List.replicate n false) = zs.take (encN (List.replicate n false)).length then some (List.replicate n false, zs.drop (encN (List.replicate n false)).length) else none) = none := if_neg fun h => hB h.2
              rw [hRR] at hDT
              simp -implicitDefEqProofs only [go_sem, ↓reduceIte, reduceCtorEq, reduceDIte, Nat.reduceAdd, Nat.reduceMul, Nat.reduceSub, Nat.reduceBEq, Nat.reduceBNe, Nat.reduceBeqDiff, Nat.reduceLT, Nat.reduceLeDiff, Nat.reduceEqDiff, Nat.reduceDiv, Nat.reduceMod, Nat.reducePow, Int.reduceLT, Int.reduceLE, Int.reduceGT, Int.reduceGE, Int.reduceEq, Int.reduceNe, Int.reduceToNat, Int.reduceNeg, Int.reducePow, Int.reduceAdd, Int.reduceMul, Int.reduceSub, Int.reduceBEq, Int.reduceMod, Int.reduceDiv, Int.reduceNatCast, Nat.min_def, Read_sl (zs := zs) (by omega), hR, readN, Rest_sl (zs := t :: b) (by omega), Ok_sl, hn', hlr, hpos, g1, g2, Int.le_refl, q0, hE, a1, a2, a3, hEq, hB, hDT, resD]
          · have a1 : (zs.length : Int) < ((encN (List.replicate n false)).length : Int) := by omega
            have hRR : (if (encN (List.replicate n false)).length ≤ zs.length ∧ encN (List.replicate n false) = zs.take (encN (List.replicate n false)).length then some (List.replicate n false, zs.drop (encN (List.replicate n false)).length) else none) = none := if_neg fun h => hA h.1
            rw [hRR] at hDT
            simp -implicitDefEqProofs only [go_sem, ↓reduceIte, reduceCtorEq, reduceDIte, Nat.reduceAdd, Nat.reduceMul, Nat.reduceSub, Nat.reduceBEq, Nat.reduceBNe, Nat.reduceBeqDiff, Nat.reduceLT, Nat.reduceLeDiff, Nat.reduceEqDiff, Nat.reduceDiv, Nat.reduceMod, Nat.reducePow, Int.reduceLT, Int.reduceLE, Int.reduceGT, Int.reduceGE, Int.reduceEq, Int.reduceNe, Int.reduceToNat, Int.reduceNeg, Int.reducePow, Int.reduceAdd, Int.reduceMul, Int.reduceSub, Int.reduceBEq, Int.reduceMod, Int.reduceDiv, Int.reduceNatCast, Nat.min_def, Read_sl (zs := zs) (by omega), hR, readN, Rest_sl (zs := t :: b) (by omega), Ok_sl, hn', hlr, hpos, g1, g2, Int.le_refl, q0, hE, a1, hDT, resD]
        · by_cases t1 : t = 1
          · have q1 := eq_true t1
            have hT : tellN t b n = some (List.replicate n true) := by rw [tellN, if_neg t0, if_pos t1]
            have hL : (List.replicate n true).length ≤ 65535 := by rw [List.length_replicate]; omega
            rw [hT] at hDT
            dsimp only at hDT
            simp -implicitDefEqProofs only [go_sem, ↓reduceIte, reduceCtorEq, reduceDIte, Nat.reduceAdd, Nat.reduceMul, Nat.reduceSub, Nat.reduceBEq, Nat.reduceBNe, Nat.reduceBeqDiff, Nat.reduceLT, Nat.reduceLeDiff, Nat.reduceEqDiff, Nat.reduceDiv, Nat.reduceMod, Nat.reducePow, Int.reduceLT, Int.reduceLE, Int.reduceGT, Int.reduceGE, Int.reduceEq, Int.reduceNe, Int.reduceToNat, Int.reduceNeg, Int.reducePow, Int.reduceAdd, Int.reduceMul, Int.reduceSub, Int.reduceBEq, Int.reduceMod, Int.reduceDiv, Int.reduceNatCast, Nat.min_def, Read_sl (zs := zs) (by omega), hR, readN, Rest_sl (zs := t :: b) (by omega), Ok_sl, hn', hlr, hpos, g1, g2, Int.le_refl, t0, q1, List.length_replicate]
            refine runs_loop (fun i : Nat => (⟨[(0, .sl 1 (ints .u8 zs)), (8, .h 2097664), (41, .int .i64 n), (42, .int .i64 i)], [(2097664, some ⟨true, .row 4 1 (bools (updT n i))⟩)], 1⟩ : St)) (fun i => n - i) 0 ?_
              (fun i => i ≤ n) (by omega) ?_
            · simp -implicitDefEqProofs only [go_sem, ↓reduceIte, reduceCtorEq, reduceDIte, Nat.reduceAdd, Nat.reduceMul, Nat.reduceSub, Nat.reduceBEq, Nat.reduceBNe, Nat.reduceBeqDiff, Nat.reduceLT, Nat.reduceLeDiff, Nat.reduceEqDiff, Nat.reduceDiv, Nat.reduceMod, Nat.reducePow, Int.reduceLT, Int.reduceLE, Int.reduceGT, Int.reduceGE, Int.reduceEq, Int.reduceNe, Int.reduceToNat, Int.reduceNeg, Int.reducePow, Int.reduceAdd, Int.reduceMul, Int.reduceSub, Int.reduceBEq, Int.reduceMod, Int.reduceDiv, Int.reduceNatCast, Nat.min_def, updT_zero]
            · intro i hi
              by_cases hlt : i < n
              · have hlt' : (i : Int) < n := by omega
                have ei : 0 ≤ (i : Int) := by omega
                have en : ((i : Int) + 1 + 9223372036854775808) % 18446744073709551616 - 9223372036854775808 = ((i + 1 : Nat) : Int) := by omega
                simp -implicitDefEqProofs only [go_sem, ↓reduceIte, reduceCtorEq, reduceDIte, Nat.reduceAdd, Nat.reduceMul, Nat.reduceSub, Nat.reduceBEq, Nat.reduceBNe, Nat.reduceBeqDiff, Nat.reduceLT, Nat.reduceLeDiff, Nat.reduceEqDiff, Nat.reduceDiv, Nat.reduceMod, Nat.reducePow, Int.reduceLT, Int.reduceLE, Int.reduceGT, Int.reduceGE, Int.reduceEq, Int.reduceNe, Int.reduceToNat, Int.reduceNeg, Int.reducePow, Int.reduceAdd, Int.reduceMul, Int.reduceSub, Int.reduceBEq, Int.reduceMod, Int.reduceDiv, Int.reduceNatCast, Nat.min_def, hlt', hlt, ei, en, updT_length, updT_get hlt, updT_set hlt]
                exact ⟨i + 1, by omega, by omega, rfl⟩
              · have hie : i = n := by omega
                rw [hie, updT_end]
                have hE := Encode_spec (l := List.replicate n true) hL
                have hE8 := encN_R8 (List.replicate n true) hL
                have hEl := encN_len (List.replicate n true) hL
                by_cases hA : (encN (List.replicate n true)).length ≤ zs.length
                · have a1 : ¬ (zs.length : Int) < ((encN (List.replicate n true)).length : Int) := by omega
                  have a2 : 0 ≤ ((encN (List.replicate n true)).length : Int) := by omega
                  have a3 : ((encN (List.replicate n true)).length : Int) ≤ zs.length := by omega
                  have hEq := Equal_sl hE8 (h8.take (encN (List.replicate n true)).length)
                  have hcl := cloneF_sl (k := .u8) 5 1 (zs.drop (encN (List.replicate n true)).length) (by rw [List.length_drop]; omega)
                  by_cases hB : encN (List.replicate n true) = zs.take (encN (List.replicate n true)).length
                  · have qB := eq_true hB
                    have hRR : (if (encN (List.replicate n true)).length ≤ zs.length ∧ encN (List.replicate n true) = zs.take (encN (List.replicate n true)).length then some (List.replicate n true, zs.drop (encN (List.replicate n true)).length) else none) = some (List.replicate n true, zs.drop (encN (List.replicate n true)).length) := if_pos ⟨hA, hB⟩
                    rw [hRR] at hDT
                    simp -implicitDefEqProofs only [go_sem, ↓reduceIte, reduceCtorEq, reduceDIte, Nat.reduceAdd, Nat.reduceMul, Nat.reduceSub, Nat.reduceBEq, Nat.reduceBNe, Nat.reduceBeqDiff, Nat.reduceLT, Nat.reduceLeDiff, Nat.reduceEqDiff, Nat.reduceDiv, Nat.reduceMod, Nat.reducePow, Int.reduceLT, Int.reduceLE, Int.reduceGT, Int.reduceGE, Int.reduceEq, Int.reduceNe, Int.reduceToNat, Int.reduceNeg, Int.reducePow, Int.reduceAdd, Int.reduceMul, Int.reduceSub, Int.reduceBEq, Int.reduceMod, Int.reduceDiv, Int.reduceNatCast, Nat.min_def, Int.lt_irrefl, hE, a1, a2, a3, hEq, qB, hcl, hDT, resD]
                    change _ = true
                    kernel_rfl
                  · have hRR : (if (encN (List.replicate n true)).length ≤ zs.length ∧ encN (List.replicate n true) = zs.take (encN (List.replicate n true)).length then some (List.replicate n true, zs.drop (encN (List.replicate n true)).length) else none) = none := if_neg fun h => hB h.2
                    rw [hRR] at hDT
                    simp -implicitDefEqProofs only [go_sem, ↓reduceIte, reduceCtorEq, reduceDIte, Nat.reduceAdd, Nat.reduceMul, Nat.reduceSub, Nat.reduceBEq, Nat.reduceBNe, Nat.reduceBeqDiff, Nat.reduceLT, Nat.reduceLeDiff, Nat.reduceEqDiff, Nat.reduceDiv, Nat.reduceMod, Nat.reducePow, Int.reduceLT, Int.reduceLE, Int.reduceGT, Int.reduceGE, Int.reduceEq, Int.reduceNe, Int.reduceToNat, Int.reduceNeg, Int.reducePow, Int.reduceAdd, Int.reduceMul, Int.reduceSub, Int.reduceBEq, Int.reduceMod, Int.reduceDiv, Int.reduceNatCast, Nat.min_def, Int.lt_irrefl, hE, a1, a2, a3, hEq, hB, hDT, resD]
                · have a1 : (zs.length : Int) < ((encN (List.replicate n true)).length : Int) := by omega
                  have hRR : (if (encN (List.replicate n true)).length ≤ zs.length ∧ encN (List.replicate n true) = zs.take (encN (List.replicate n true)).length then some (List.replicate n true, zs.drop (encN (List.replicate n true)).length) else none) = none := if_neg fun h => hA h.1
                  rw [hRR] at hDT
                  simp -implicitDefEqProofs only [go_sem, ↓reduceIte, reduceCtorEq, reduceDIte, Nat.reduceAdd, Nat.reduceMul, Nat.reduceSub, Nat.reduceBEq, Nat.reduceBNe, Nat.reduceBeqDiff, Nat.reduceLT, Nat.reduceLeDiff, Nat.reduceEqDiff, Nat.reduceDiv, Nat.reduceMod, Nat.reducePow, Int.reduceLT, Int.reduceLE, Int.reduceGT, Int.reduceGE, Int.reduceEq, Int.reduceNe, Int.reduceToNat, Int.reduceNeg, Int.reducePow, Int.reduceAdd, Int.reduceMul, Int.reduceSub, Int.reduceBEq, Int.reduceMod, Int.reduceDiv, Int.reduceNatCast, Nat.min_def, Int.lt_irrefl, hE, a1, hDT, resD]
          · by_cases t2 : t = 2
            · have q2 := eq_true t2
              have hT : tellN t b n = mixedN b n := by rw [tellN, if_neg t0, if_neg t1, if_pos t2]
              have u1 : 1 ≤ ((b.length + 1 : Nat) : Int) := by omega
              have u2 : ((n : Int) + 9223372036854775808) % 18446744073709551616 - 9223372036854775808 = n := by omega
              have hb8 : R8 b := fun z hz => hr8 z (List.mem_cons_of_mem _ hz)
              by_cases hs : b.length < (n + 7) / 8
              · have hm : mixedN b n = none := by unfold mixedN; rw [if_pos hs]
                rw [hT, hm] at hDT
                dsimp only at hDT
                simp -implicitDefEqProofs only [go_sem, ↓reduceIte, reduceCtorEq, reduceDIte, Nat.reduceAdd, Nat.reduceMul, Nat.reduceSub, Nat.reduceBEq, Nat.reduceBNe, Nat.reduceBeqDiff, Nat.reduceLT, Nat.reduceLeDiff, Nat.reduceEqDiff, Nat.reduceDiv, Nat.reduceMod, Nat.reducePow, Int.reduceLT, Int.reduceLE, Int.reduceGT, Int.reduceGE, Int.reduceEq, Int.reduceNe, Int.reduceToNat, Int.reduceNeg, Int.reducePow, Int.reduceAdd, Int.reduceMul, Int.reduceSub, Int.reduceBEq, Int.reduceMod, Int.reduceDiv, Int.reduceNatCast, Nat.min_def, Read_sl (zs := zs) (by omega), hR, readN, Rest_sl (zs := t :: b) (by omega), Ok_sl, hn', hlr, hpos, g1, g2, Int.le_refl, t0, t1, q2, u1, u2, mixed_short (zs := b) (n := n) (by omega) hs, hDT, resD]
              · have hM := mixed_spec (zs := b) (n := n) hb8 (by omega) (by omega) (by omega)
                rw [hT] at hDT
                cases hm : mixedN b n with
                | none =>
                  rw [hm] at hM hDT
                  dsimp only at hDT
                  simp -implicitDefEqProofs only [go_sem, ↓reduceIte, reduceCtorEq, reduceDIte, Nat.reduceAdd, Nat.reduceMul, Nat.reduceSub, Nat.reduceBEq, Nat.reduceBNe, Nat.reduceBeqDiff, Nat.reduceLT, Nat.reduceLeDiff, Nat.reduceEqDiff, Nat.reduceDiv, Nat.reduceMod, Nat.reducePow, Int.reduceLT, Int.reduceLE, Int.reduceGT, Int.reduceGE, Int.reduceEq, Int.reduceNe, Int.reduceToNat, Int.reduceNeg, Int.reducePow, Int.reduceAdd, Int.reduceMul, Int.reduceSub, Int.reduceBEq, Int.reduceMod, Int.reduceDiv, Int.reduceNatCast, Nat.min_def, Read_sl (zs := zs) (by omega), hR, readN, Rest_sl (zs := t :: b) (by omega), Ok_sl, hn', hlr, hpos, g1, g2, Int.le_refl, t0, t1, q2, u1, u2, hM, hDT, resD]
                | some l =>
                  rw [hm] at hM hDT
                  have hL : l.length ≤ 65535 := tellN_len (t := t) (by omega) (hT.trans hm)
                  dsimp only at hDT
                  have hE := Encode_spec (l := l) hL
                  have hE8 := encN_R8 (l) hL
                  have hEl := encN_len (l) hL
                  by_cases hA : (encN (l)).length ≤ zs.length
                  · have a1 : ¬ (zs.length : Int) < ((encN (l)).length : Int) := by omega
                    have a2 : 0 ≤ ((encN (l)).length : Int) := by omega
                    have a3 : ((encN (l)).length : Int) ≤ zs.length := by omega
                    have hEq := Equal_sl hE8 (h8.take (encN (l)).length)
                    have hcl := cloneF_sl (k := .u8) 5 1 (zs.drop (encN (l)).length) (by rw [List.length_drop]; omega)
                    by_cases hB : encN (l) = zs.take (encN (l)).length
                    · have qB := eq_true hB
                      have hRR : (if (encN (l)).length ≤ zs.length ∧ encN (l) = zs.take (encN (l)).length then some (l, zs.drop (encN (l)).length) else none) = some (l, zs.drop (encN (l)).length) := if_pos ⟨hA, hB⟩
                      rw [hRR] at hDT
                      simp -implicitDefEqProofs only [go_sem, ↓reduceIte, reduceCtorEq, reduceDIte, Nat.reduceAdd, Nat.reduceMul, Nat.reduceSub, Nat.reduceBEq, Nat.reduceBNe, Nat.reduceBeqDiff, Nat.reduceLT, Nat.reduceLeDiff, Nat.reduceEqDiff, Nat.reduceDiv, Nat.reduceMod, Nat.reducePow, Int.reduceLT, Int.reduceLE, Int.reduceGT, Int.reduceGE, Int.reduceEq, Int.reduceNe, Int.reduceToNat, Int.reduceNeg, Int.reducePow, Int.reduceAdd, Int.reduceMul, Int.reduceSub, Int.reduceBEq, Int.reduceMod, Int.reduceDiv, Int.reduceNatCast, Nat.min_def, Read_sl (zs := zs) (by omega), hR, readN, Rest_sl (zs := t :: b) (by omega), Ok_sl, hn', hlr, hpos, g1, g2, Int.le_refl, t0, t1, q2, u1, u2, hM, hE, a1, a2, a3, hEq, qB, hcl, hDT, resD]
                      change _ = true
                      kernel_rfl
                    · have hRR : (if (encN (l)).length ≤ zs.length ∧ encN (l) = zs.take (encN (l)).length then some (l, zs.drop (encN (l)).length) else none) = none := if_neg fun h => hB h.2
                      rw [hRR] at hDT
                      simp -implicitDefEqProofs only [go_sem, ↓reduceIte, reduceCtorEq, reduceDIte, Nat.reduceAdd, Nat.reduceMul, Nat.reduceSub, Nat.reduceBEq, Nat.reduceBNe, Nat.reduceBeqDiff, Nat.reduceLT, Nat.reduceLeDiff, Nat.reduceEqDiff, Nat.reduceDiv, Nat.reduceMod, Nat.reducePow, Int.reduceLT, Int.reduceLE, Int.reduceGT, Int.reduceGE, Int.reduceEq, Int.reduceNe, Int.reduceToNat, Int.reduceNeg, Int.reducePow, Int.reduceAdd, Int.reduceMul, Int.reduceSub, Int.reduceBEq, Int.reduceMod, Int.reduceDiv, Int.reduceNatCast, Nat.min_def, Read_sl (zs := zs) (by omega), hR, readN, Rest_sl (zs := t :: b) (by omega), Ok_sl, hn', hlr, hpos, g1, g2, Int.le_refl, t0, t1, q2, u1, u2, hM, hE, a1, a2, a3, hEq, hB, hDT, resD]
                  · have a1 : (zs.length : Int) < ((encN (l)).length : Int) := by omega
                    have hRR : (if (encN (l)).length ≤ zs.length ∧ encN (l) = zs.take (encN (l)).length then some (l, zs.drop (encN (l)).length) else none) = none := if_neg fun h => hA h.1
                    rw [hRR] at hDT
                    simp -implicitDefEqProofs only [go_sem, ↓reduceIte, reduceCtorEq, reduceDIte, Nat.reduceAdd, Nat.reduceMul, Nat.reduceSub, Nat.reduceBEq, Nat.reduceBNe, Nat.reduceBeqDiff, Nat.reduceLT, Nat.reduceLeDiff, Nat.reduceEqDiff, Nat.reduceDiv, Nat.reduceMod, Nat.reducePow, Int.reduceLT, Int.reduceLE, Int.reduceGT, Int.reduceGE, Int.reduceEq, Int.reduceNe, Int.reduceToNat, Int.reduceNeg, Int.reducePow, Int.reduceAdd, Int.reduceMul, Int.reduceSub, Int.reduceBEq, Int.reduceMod, Int.reduceDiv, Int.reduceNatCast, Nat.min_def, Read_sl (zs := zs) (by omega), hR, readN, Rest_sl (zs := t :: b) (by omega), Ok_sl, hn', hlr, hpos, g1, g2, Int.le_refl, t0, t1, q2, u1, u2, hM, hE, a1, hDT, resD]
            · have hT : tellN t b n = none := by rw [tellN, if_neg t0, if_neg t1, if_neg t2]
              rw [hT] at hDT
              dsimp only at hDT
              simp -implicitDefEqProofs only [go_sem, ↓reduceIte, reduceCtorEq, reduceDIte, Nat.reduceAdd, Nat.reduceMul, Nat.reduceSub, Nat.reduceBEq, Nat.reduceBNe, Nat.reduceBeqDiff, Nat.reduceLT, Nat.reduceLeDiff, Nat.reduceEqDiff, Nat.reduceDiv, Nat.reduceMod, Nat.reducePow, Int.reduceLT, Int.reduceLE, Int.reduceGT, Int.reduceGE, Int.reduceEq, Int.reduceNe, Int.reduceToNat, Int.reduceNeg, Int.reducePow, Int.reduceAdd, Int.reduceMul, Int.reduceSub, Int.reduceBEq, Int.reduceMod, Int.reduceDiv, Int.reduceNatCast, Nat.min_def, Read_sl (zs := zs) (by omega), hR, readN, Rest_sl (zs := t :: b) (by omega), Ok_sl, hn', hlr, hpos, g1, g2, Int.le_refl, t0, t1, t2, hDT, resD]
end Go.Proofs.Ytepofpmohiegpaa.D
