/- ZoneBytes: what the law comes to. -/
import Derived.Test.YtjhdickfkpcccaaZB0
namespace Go.Proofs.Ytjhdickfkpcccaa.D
open Go Go.Den
set_option linter.unusedSimpArgs false
set_option linter.unusedVariables false
set_option maxRecDepth 20000
set_option maxHeartbeats 8000000
theorem awakeB : dw E 4 [] [] = some (.bool true, []) := dw_of (k := 300) (by kernel_rfl)
theorem Of_none : dw E 5 [.agg [.sl 3 (colsB.map Col.pv)], .nils] [] = some (.nr 37 9 [[.int .i64 0, .bool true, .int .i64 1, .int .i64 0, .nils, .bool true, .int .i64 1, .int .i64 0, .nils], [.int .i64 0, .bool true, .int .i64 2, .int .i64 0, .nils, .bool true, .int .i64 2, .int .i64 0, .nils]], []) := dw_of (k := 200) (by kernel_rfl)
theorem colsB_pv : colsB.map Col.pv = [[.str [107, 101, 121], .int .i64 1, .bool false], [.str [97], .int .i64 2, .bool false]] := rfl
def cmpB (op : Int) (b : List Int) : Prd := .mk 2 1 op ⟨false, 2, 0, some b⟩ true []
theorem may_cmp {z0 z1 : Zn} {count op : Int} {b : List Int} (h : 0 < count) : mayN [z0, z1] count (cmpB op b) = compN op ⟨false, 2, 0, some b⟩ z1 := by
  have e : formN false (cmpB op b) = ([(false, [(cmpB op b).still])], true) := by rw [cmpB, form_mk, if_neg (by decide), if_pos rfl]; rfl
  unfold mayN
  rw [if_neg (by omega), e]
  simp only [if_true, List.map_cons, List.map_nil, List.any_cons, List.any_nil, Bool.or_false]
  have e2 : (andN (false, [(cmpB op b).still])).still.list = [(cmpB op b).still.still.still] := by rw [andN, still_mk]; rfl
  rw [e2]
  simp only [List.any_cons, List.any_nil, Bool.or_false, Bool.not_not]
  rw [cmpB, still_mk, still_mk, still_mk, possN_mk, if_neg (by decide)]
  rfl
theorem mayB_spec {z0 z1 : Zn} {X : List (List PV)} {op : Int} {b : List Int} (hX : 1 ≤ X.length ∧ X.length ≤ 1000) (hb : b.length ≤ 1000000) :
    dw E 6 [.int .i64 op, .pb 16777216 0, .pb 16777217 0, .pb 16777218 0] [[.sl 1 (ints .u8 b)], [.sl 9 [z0.pv, z1.pv]], [.sl 1 X]] =
      some (.bool (compN op ⟨false, 2, 0, some b⟩ z1), [[.sl 1 (ints .u8 b)], [.sl 9 [z0.pv, z1.pv]], [.sl 1 X]]) := by
  have hM := May_spec (zs := [z0, z1]) (count := (X.length : Int)) (p := cmpB op b) (by simp) (.mk (by simpa [bz] using hb) (by simp) (by simp)) (by rw [cmpB, cnt_mk, cnts_nil]; omega)
  rw [may_cmp (by omega)] at hM
  rw [show (cmpB op b).kind = 2 from rfl, show (cmpB op b).col = 1 from rfl, show (cmpB op b).op = op from rfl, show (cmpB op b).val = ⟨false, 2, 0, some b⟩ from rfl, show (cmpB op b).nil = true from rfl, show (cmpB op b).list = [] from rfl, pl_nil] at hM
  simp only [List.map_cons, List.map_nil, bl_some] at hM
  refine dw_in (fn := Try.f6) rfl body6 (by simp) ?_
  simp -implicitDefEqProofs (maxSteps := 4000000) (disch := omega) only [go_sem, go_sem_proc, dr, Nat.min_def, ↓Nat.reduceBEq, ↓Nat.reduceEqDiff, ↓Nat.reduceLT, ↓Nat.reduceLeDiff, ↓Int.reduceEq, ↓Int.reduceLT, ↓Int.reduceLE, ↓reduceIte, hM]
def zbSt (R : List (List Int)) (b : List Int) (i : Nat) : St :=
  ⟨[(0, .sl 1 (R.map fun zs => [.sl 1 (ints .u8 zs)])), (3, .pb 1048579 0), (5, .pb 1048581 0), (6, .pb 1048582 0), (7, .str (loF ((R.take i).map u8s))), (8, .str (hiF ((R.take i).map u8s))), (27, .sl 1 (R.map fun zs => [.sl 1 (ints .u8 zs)])), (28, .int .i64 R.length), (29, .int .i64 i)],
   (1048579, some ⟨true, .box [.sl 1 (ints .u8 b)]⟩) :: (1048581, some ⟨true, .box [.h 2097472]⟩) :: (2097472, some ⟨true, .row 25 3 [[.str [107, 101, 121], .int .i64 1, .bool false], [.str [97], .int .i64 2, .bool false]]⟩) ::
   (1048582, some ⟨true, .box [match i with | 0 => .nils | _ + 1 => .h 2097536]⟩) :: (match i with | 0 => [] | j + 1 => [(2097536, some ⟨true, .row 33 1 (rowsPV (rowsB (R.take (j + 1))))⟩)]), 1⟩
theorem Zl_anti (a b : List UInt8) : Lib.compareBytes b a = -Lib.compareBytes a b := cb_anti a b
theorem toNat_s (j : Nat) : ((j : Int) + 1).toNat = j + 1 := by omega
theorem ZoneBytes_spec {R : List (List Int)} {b : List Int} : dw E 3 [.sl 1 (R.map fun zs => [.sl 1 (ints .u8 zs)]), .sl 1 (ints .u8 b)] [] = some (.bool true, []) := by
  have h9 := awakeB
  by_cases hb : 64 < b.length
  · refine dw_in (fn := Try.f3) rfl body3 (by simp) ?_
    simp -implicitDefEqProofs (maxSteps := 4000000) (disch := omega) only [go_sem, go_sem_proc, dr, Nat.min_def, ↓Nat.reduceBEq, ↓Nat.reduceEqDiff, ↓Nat.reduceLT, ↓Nat.reduceLeDiff, ↓Int.reduceEq, ↓Int.reduceLT, ↓Int.reduceLE, ↓reduceIte, h9]
  have hb : b.length ≤ 64 := by omega
  by_cases hr : 30 < R.length
  · refine dw_in (fn := Try.f3) rfl body3 (by simp) ?_
    simp -implicitDefEqProofs (maxSteps := 4000000) (disch := omega) only [go_sem, go_sem_proc, dr, Nat.min_def, ↓Nat.reduceBEq, ↓Nat.reduceEqDiff, ↓Nat.reduceLT, ↓Nat.reduceLeDiff, ↓Int.reduceEq, ↓Int.reduceLT, ↓Int.reduceLE, ↓reduceIte, h9]
  have hr : R.length ≤ 30 := by omega
  refine dw_in (fn := Try.f3) rfl body3 (by simp) ?_
  simp -implicitDefEqProofs (maxSteps := 4000000) (disch := omega) only [go_sem, go_sem_proc, dr, Nat.min_def, ↓Nat.reduceBEq, ↓Nat.reduceEqDiff, ↓Nat.reduceLT, ↓Nat.reduceLeDiff, ↓Int.reduceEq, ↓Int.reduceLT, ↓Int.reduceLE, ↓reduceIte]
  refine runs_any (fun i : Nat => zbSt R b i) (fun i => R.length - i) 0 (fun i => i ≤ R.length ∧ ∀ zs ∈ R.take i, zs.length ≤ 64) ⟨Nat.zero_le _, by simp⟩ ?_ ?_
  · simp -implicitDefEqProofs (maxSteps := 4000000) (disch := omega) only [go_sem, go_sem_proc, dr, Nat.min_def, ↓Nat.reduceBEq, ↓Nat.reduceEqDiff, ↓Nat.reduceLT, ↓Nat.reduceLeDiff, ↓Int.reduceEq, ↓Int.reduceLT, ↓Int.reduceLE, ↓reduceIte, zbSt, loF, hiF]
  · rintro i ⟨hi, hsm⟩
    by_cases hlt : i < R.length
    · obtain ⟨zs, hz, hzm, ht⟩ := take_get hlt
      by_cases h64 : 64 < zs.length
      · rcases i with _ | j
        · simp -implicitDefEqProofs (maxSteps := 4000000) (disch := omega) only [go_sem, go_sem_proc, dr, Nat.min_def, ↓Nat.reduceBEq, ↓Nat.reduceEqDiff, ↓Nat.reduceLT, ↓Nat.reduceLeDiff, ↓Int.reduceEq, ↓Int.reduceLT, ↓Int.reduceLE, ↓reduceIte, zbSt, hz, h9]
        · simp -implicitDefEqProofs (maxSteps := 4000000) (disch := omega) only [go_sem, go_sem_proc, dr, Nat.min_def, ↓Nat.reduceBEq, ↓Nat.reduceEqDiff, ↓Nat.reduceLT, ↓Nat.reduceLeDiff, ↓Int.reduceEq, ↓Int.reduceLT, ↓Int.reduceLE, ↓reduceIte, zbSt, hz, h9, toNat_s]
      · have h64 : zs.length ≤ 64 := by omega
        have hsm' : ∀ x ∈ R.take (i + 1), x.length ≤ 64 := fun x hx => by
          rw [ht] at hx
          rcases List.mem_append.1 hx with hx | hx
          · exact hsm x hx
          · simp at hx; subst hx; exact h64
        clear hsm
        rcases i with _ | j
        · have hrb : rowsPV (rowsB (R.take (0 + 1))) = [[.sl 4 [[.bool false, .int .i64 1, .int .i64 0, .nils], [.bool false, .int .i64 2, .int .i64 0, .sl 1 (ints .u8 zs)]]]] := by rw [ht]; rfl
          have hlo : loF ((R.take (0 + 1)).map u8s) = zs.map toU8 := by rw [ht]; rfl
          have hhi : hiF ((R.take (0 + 1)).map u8s) = zs.map toU8 := by rw [ht]; rfl
          clear ht
          simp -implicitDefEqProofs (maxSteps := 4000000) (disch := omega) only [go_sem, go_sem_proc, dr, Nat.min_def, ↓Nat.reduceBEq, ↓Nat.reduceEqDiff, ↓Nat.reduceLT, ↓Nat.reduceLeDiff, ↓Int.reduceEq, ↓Int.reduceLT, ↓Int.reduceLE, ↓reduceIte, zbSt, hz]
          refine ⟨1, ?_, ⟨hlt, hsm'⟩, by show R.length - 1 < R.length - 0; omega⟩
          simp only [hrb, hlo, hhi]
          rfl
        · have hlen : (R.take (j + 1)).length = j + 1 := by rw [List.length_take]; omega
          have hne : (R.take (j + 1)).map u8s ≠ [] := by intro e; have := congrArg List.length e; rw [List.length_map, hlen] at this; simp at this
          have hrb : rowsPV (rowsB (R.take (j + 1 + 1))) = rowsPV (rowsB (R.take (j + 1))) ++ [[.sl 4 [[.bool false, .int .i64 1, .int .i64 (j + 1), .nils], [.bool false, .int .i64 2, .int .i64 0, .sl 1 (ints .u8 zs)]]]] := by
            rw [ht, rowsB_snoc, hlen, rowsPV, List.map_append]
            rfl
          have hrl : (rowsPV (rowsB (R.take (j + 1)))).length = j + 1 := by rw [rowsPV, List.length_map, rowsB_len, hlen]
          have hlo : loF ((R.take (j + 1 + 1)).map u8s) = if Lib.compareBytes (u8s zs) (loF ((R.take (j + 1)).map u8s)) < 0 then u8s zs else loF ((R.take (j + 1)).map u8s) := by
            rw [ht, List.map_append, List.map_cons, List.map_nil, loF_snoc, if_neg hne]
          have hhi : hiF ((R.take (j + 1 + 1)).map u8s) = if 0 < Lib.compareBytes (u8s zs) (hiF ((R.take (j + 1)).map u8s)) then u8s zs else hiF ((R.take (j + 1)).map u8s) := by
            rw [ht, List.map_append, List.map_cons, List.map_nil, hiF_snoc, if_neg hne]
          obtain ⟨L, hL⟩ : ∃ L, loF ((R.take (j + 1)).map u8s) = L := ⟨_, rfl⟩
          obtain ⟨H, hH⟩ : ∃ H, hiF ((R.take (j + 1)).map u8s) = H := ⟨_, rfl⟩
          rw [hL] at hlo
          rw [hH] at hhi
          have l1 := less_iff (u8s zs) L
          have l2 := less_iff (u8s zs) H
          rcases cb_cases (u8s zs) H with ch | ch | ch
          · have e2 : (u8s zs == H) = false := by rw [beq_eq_false_iff_ne]; intro e; rw [e, cb_zero.2 rfl] at ch; cases ch
            rw [ch] at hhi l2
            rw [if_neg (by decide)] at hhi
            rcases cb_cases (u8s zs) L with cl | cl | cl
            · rw [cl] at hlo l1
              rw [if_pos (by decide)] at hlo
              simp only [u8s, decide_true, decide_false, Int.reduceEq, Int.reduceNeg, reduceCtorEq] at l1 l2 e2
              simp -implicitDefEqProofs (maxSteps := 4000000) (disch := omega) only [go_sem, go_sem_proc, dr, Nat.min_def, ↓Nat.reduceBEq, ↓Nat.reduceEqDiff, ↓Nat.reduceLT, ↓Nat.reduceLeDiff, ↓Int.reduceEq, ↓Int.reduceLT, ↓Int.reduceLE, ↓reduceIte, zbSt, hz, hL, hH, hrl, l1, l2, e2, toNat_s]
              refine ⟨j + 1 + 1, ?_, ⟨hlt, hsm'⟩, by show R.length - (j + 1 + 1) < R.length - (j + 1); omega⟩
              simp only [hrb, hlo, hhi, u8s]
              first | done | rfl
            · rw [cl] at hlo l1
              rw [if_neg (by decide)] at hlo
              simp only [u8s, decide_true, decide_false, Int.reduceEq, Int.reduceNeg, reduceCtorEq] at l1 l2 e2
              simp -implicitDefEqProofs (maxSteps := 4000000) (disch := omega) only [go_sem, go_sem_proc, dr, Nat.min_def, ↓Nat.reduceBEq, ↓Nat.reduceEqDiff, ↓Nat.reduceLT, ↓Nat.reduceLeDiff, ↓Int.reduceEq, ↓Int.reduceLT, ↓Int.reduceLE, ↓reduceIte, zbSt, hz, hL, hH, hrl, l1, l2, e2, toNat_s]
              refine ⟨j + 1 + 1, ?_, ⟨hlt, hsm'⟩, by show R.length - (j + 1 + 1) < R.length - (j + 1); omega⟩
              simp only [hrb, hlo, hhi, u8s]
              first | done | rfl
            · rw [cl] at hlo l1
              rw [if_neg (by decide)] at hlo
              simp only [u8s, decide_true, decide_false, Int.reduceEq, Int.reduceNeg, reduceCtorEq] at l1 l2 e2
              simp -implicitDefEqProofs (maxSteps := 4000000) (disch := omega) only [go_sem, go_sem_proc, dr, Nat.min_def, ↓Nat.reduceBEq, ↓Nat.reduceEqDiff, ↓Nat.reduceLT, ↓Nat.reduceLeDiff, ↓Int.reduceEq, ↓Int.reduceLT, ↓Int.reduceLE, ↓reduceIte, zbSt, hz, hL, hH, hrl, l1, l2, e2, toNat_s]
              refine ⟨j + 1 + 1, ?_, ⟨hlt, hsm'⟩, by show R.length - (j + 1 + 1) < R.length - (j + 1); omega⟩
              simp only [hrb, hlo, hhi, u8s]
              first | done | rfl
          · have e2 : (u8s zs == H) = true := by rw [beq_iff_eq]; exact cb_zero.1 ch
            rw [ch] at hhi l2
            rw [if_neg (by decide)] at hhi
            rcases cb_cases (u8s zs) L with cl | cl | cl
            · rw [cl] at hlo l1
              rw [if_pos (by decide)] at hlo
              simp only [u8s, decide_true, decide_false, Int.reduceEq, Int.reduceNeg, reduceCtorEq] at l1 l2 e2
              simp -implicitDefEqProofs (maxSteps := 4000000) (disch := omega) only [go_sem, go_sem_proc, dr, Nat.min_def, ↓Nat.reduceBEq, ↓Nat.reduceEqDiff, ↓Nat.reduceLT, ↓Nat.reduceLeDiff, ↓Int.reduceEq, ↓Int.reduceLT, ↓Int.reduceLE, ↓reduceIte, zbSt, hz, hL, hH, hrl, l1, l2, e2, toNat_s]
              refine ⟨j + 1 + 1, ?_, ⟨hlt, hsm'⟩, by show R.length - (j + 1 + 1) < R.length - (j + 1); omega⟩
              simp only [hrb, hlo, hhi, u8s]
              first | done | rfl
            · rw [cl] at hlo l1
              rw [if_neg (by decide)] at hlo
              simp only [u8s, decide_true, decide_false, Int.reduceEq, Int.reduceNeg, reduceCtorEq] at l1 l2 e2
              simp -implicitDefEqProofs (maxSteps := 4000000) (disch := omega) only [go_sem, go_sem_proc, dr, Nat.min_def, ↓Nat.reduceBEq, ↓Nat.reduceEqDiff, ↓Nat.reduceLT, ↓Nat.reduceLeDiff, ↓Int.reduceEq, ↓Int.reduceLT, ↓Int.reduceLE, ↓reduceIte, zbSt, hz, hL, hH, hrl, l1, l2, e2, toNat_s]
              refine ⟨j + 1 + 1, ?_, ⟨hlt, hsm'⟩, by show R.length - (j + 1 + 1) < R.length - (j + 1); omega⟩
              simp only [hrb, hlo, hhi, u8s]
              first | done | rfl
            · rw [cl] at hlo l1
              rw [if_neg (by decide)] at hlo
              simp only [u8s, decide_true, decide_false, Int.reduceEq, Int.reduceNeg, reduceCtorEq] at l1 l2 e2
              simp -implicitDefEqProofs (maxSteps := 4000000) (disch := omega) only [go_sem, go_sem_proc, dr, Nat.min_def, ↓Nat.reduceBEq, ↓Nat.reduceEqDiff, ↓Nat.reduceLT, ↓Nat.reduceLeDiff, ↓Int.reduceEq, ↓Int.reduceLT, ↓Int.reduceLE, ↓reduceIte, zbSt, hz, hL, hH, hrl, l1, l2, e2, toNat_s]
              refine ⟨j + 1 + 1, ?_, ⟨hlt, hsm'⟩, by show R.length - (j + 1 + 1) < R.length - (j + 1); omega⟩
              simp only [hrb, hlo, hhi, u8s]
              first | done | rfl
          · have e2 : (u8s zs == H) = false := by rw [beq_eq_false_iff_ne]; intro e; rw [e, cb_zero.2 rfl] at ch; cases ch
            rw [ch] at hhi l2
            rw [if_pos (by decide)] at hhi
            rcases cb_cases (u8s zs) L with cl | cl | cl
            · rw [cl] at hlo l1
              rw [if_pos (by decide)] at hlo
              simp only [u8s, decide_true, decide_false, Int.reduceEq, Int.reduceNeg, reduceCtorEq] at l1 l2 e2
              simp -implicitDefEqProofs (maxSteps := 4000000) (disch := omega) only [go_sem, go_sem_proc, dr, Nat.min_def, ↓Nat.reduceBEq, ↓Nat.reduceEqDiff, ↓Nat.reduceLT, ↓Nat.reduceLeDiff, ↓Int.reduceEq, ↓Int.reduceLT, ↓Int.reduceLE, ↓reduceIte, zbSt, hz, hL, hH, hrl, l1, l2, e2, toNat_s]
              refine ⟨j + 1 + 1, ?_, ⟨hlt, hsm'⟩, by show R.length - (j + 1 + 1) < R.length - (j + 1); omega⟩
              simp only [hrb, hlo, hhi, u8s]
              first | done | rfl
            · rw [cl] at hlo l1
              rw [if_neg (by decide)] at hlo
              simp only [u8s, decide_true, decide_false, Int.reduceEq, Int.reduceNeg, reduceCtorEq] at l1 l2 e2
              simp -implicitDefEqProofs (maxSteps := 4000000) (disch := omega) only [go_sem, go_sem_proc, dr, Nat.min_def, ↓Nat.reduceBEq, ↓Nat.reduceEqDiff, ↓Nat.reduceLT, ↓Nat.reduceLeDiff, ↓Int.reduceEq, ↓Int.reduceLT, ↓Int.reduceLE, ↓reduceIte, zbSt, hz, hL, hH, hrl, l1, l2, e2, toNat_s]
              refine ⟨j + 1 + 1, ?_, ⟨hlt, hsm'⟩, by show R.length - (j + 1 + 1) < R.length - (j + 1); omega⟩
              simp only [hrb, hlo, hhi, u8s]
              first | done | rfl
            · rw [cl] at hlo l1
              rw [if_neg (by decide)] at hlo
              simp only [u8s, decide_true, decide_false, Int.reduceEq, Int.reduceNeg, reduceCtorEq] at l1 l2 e2
              simp -implicitDefEqProofs (maxSteps := 4000000) (disch := omega) only [go_sem, go_sem_proc, dr, Nat.min_def, ↓Nat.reduceBEq, ↓Nat.reduceEqDiff, ↓Nat.reduceLT, ↓Nat.reduceLeDiff, ↓Int.reduceEq, ↓Int.reduceLT, ↓Int.reduceLE, ↓reduceIte, zbSt, hz, hL, hH, hrl, l1, l2, e2, toNat_s]
              refine ⟨j + 1 + 1, ?_, ⟨hlt, hsm'⟩, by show R.length - (j + 1 + 1) < R.length - (j + 1); omega⟩
              simp only [hrb, hlo, hhi, u8s]
              first | done | rfl
    · have hi' : i = R.length := by omega
      subst hi'
      rw [List.take_length] at hsm
      clear hlt
      by_cases hR0 : R = []
      · subst hR0
        have hOn := Of_none
        rw [colsB_pv] at hOn
        simp -implicitDefEqProofs (maxSteps := 4000000) (disch := omega) only [go_sem, go_sem_proc, dr, Nat.min_def, ↓Nat.reduceBEq, ↓Nat.reduceEqDiff, ↓Nat.reduceLT, ↓Nat.reduceLeDiff, ↓Int.reduceEq, ↓Int.reduceLT, ↓Int.reduceLE, ↓reduceIte, zbSt, hOn, h9]
      · obtain ⟨j, hj⟩ : ∃ j, R.length = j + 1 := ⟨R.length - 1, by have := List.length_pos_iff.2 hR0; omega⟩
        have htk : R.take (j + 1) = R := List.take_of_length_le (by omega)
        obtain ⟨_, lo, hi, hz, h1, h2⟩ := (zoneB R).resolve_left fun h => hR0 h.1
        have hO := Of_spec (s := colsB) (rows := rowsB R) (by decide) ⟨by rw [rowsB_len]; omega, fun r hr => by
          obtain ⟨k, hk, rfl⟩ := List.getElem_of_mem hr
          simp only [rowsB, List.getElem_mapIdx]
          have hk' : k < R.length := by rw [rowsB_len] at hk; exact hk
          refine ⟨by simp [rowB], fun v hv => ?_⟩
          have := hsm R[k] (List.getElem_mem hk')
          simp [rowB] at hv
          rcases hv with rfl | rfl
          · simp [bz]
          · simp only [bz_some]; omega⟩
        rw [show zonesN colsB (rowsB R) = [zoneC 1 0 (rowsB R), zoneC 2 1 (rowsB R)] from rfl, hz, colsB_pv] at hO
        have hX : (rowsPV (rowsB R)).length = j + 1 := by rw [rowsPV, List.length_map, rowsB_len, hj]
        have hM := fun op => mayB_spec (z0 := zoneC 1 0 (rowsB R)) (z1 := ⟨0, ⟨false, 2, 0, some lo⟩, ⟨false, 2, 0, some hi⟩⟩) (X := rowsPV (rowsB R)) (op := op) (b := b) (by omega) (by omega)
        generalize zoneC 1 0 (rowsB R) = z0 at hO hM
        generalize hXX : rowsPV (rowsB R) = X at hO hM hX
        simp only [Zn.pv, bl_some, List.map_cons, List.map_nil] at hO hM
        have c1 : cmpV ⟨false, 2, 0, some lo⟩ ⟨false, 2, 0, some b⟩ = Lib.compareBytes (u8s lo) (u8s b) := by rw [cmpV_nn rfl rfl]; rfl
        have c2 : cmpV ⟨false, 2, 0, some hi⟩ ⟨false, 2, 0, some b⟩ = Lib.compareBytes (u8s hi) (u8s b) := by rw [cmpV_nn rfl rfl]; rfl
        have a1 := less_iff (u8s lo) (u8s b)
        have a3 := less_iff (u8s hi) (u8s b)
        have a5 := less_iff (u8s b) (u8s hi)
        rw [Zl_anti (u8s hi) (u8s b)] at a5
        have kk : ∀ op, compN op ⟨false, 2, 0, some b⟩ ⟨0, ⟨false, 2, 0, some lo⟩, ⟨false, 2, 0, some hi⟩⟩ =
            if op = 1 then decide (Lib.compareBytes (u8s lo) (u8s b) ≤ 0) && decide (0 ≤ Lib.compareBytes (u8s hi) (u8s b))
            else if op = 2 then !decide (Lib.compareBytes (u8s lo) (u8s b) = 0) || !decide (Lib.compareBytes (u8s hi) (u8s b) = 0)
            else if op = 3 ∨ op = 4 then holdsOp op (Lib.compareBytes (u8s lo) (u8s b)) else holdsOp op (Lib.compareBytes (u8s hi) (u8s b)) := fun op => by
          unfold compN
          rw [if_neg (by simp), c1, c2]
        simp only [kk] at hM
        clear kk c1 c2 hz hsm
        have m1 := hM 1
        have m2 := hM 2
        have m3 := hM 3
        have m4 := hM 4
        have m5 := hM 5
        have m6 := hM 6
        clear hM
        rcases cb_cases (u8s lo) (u8s b) with ca | ca | ca <;> rcases cb_cases (u8s hi) (u8s b) with cc | cc | cc
        · have d1 : (u8s lo == u8s b) = false := by rw [beq_eq_false_iff_ne]; intro e; rw [e, cb_zero.2 rfl] at ca; cases ca
          have d2 : (u8s hi == u8s b) = false := by rw [beq_eq_false_iff_ne]; intro e; rw [e, cb_zero.2 rfl] at cc; cases cc
          have d3 : (u8s b == u8s hi) = false := by rw [← d2]; exact Bool.beq_comm
          rw [ca] at a1 m1 m2 m3 m4
          rw [cc] at a3 a5 m1 m2 m5 m6
          simp only [u8s, decide_true, decide_false, Int.reduceEq, Int.reduceNeg, Int.neg_zero, Int.neg_neg, reduceCtorEq, holdsOp, Int.reduceLE, Int.reduceLT, ↓reduceIte, Bool.and_true, Bool.and_false, Bool.true_and, Bool.false_and, Bool.or_true, Bool.or_false, Bool.true_or, Bool.false_or, Bool.not_true, Bool.not_false, or_true, or_false, true_or, false_or, or_self] at a1 a3 a5 d1 d2 d3 h1 h2 m1 m2 m3 m4 m5 m6
          simp -implicitDefEqProofs (maxSteps := 4000000) (disch := omega) only [go_sem, go_sem_proc, dr, Nat.min_def, ↓Nat.reduceBEq, ↓Nat.reduceEqDiff, ↓Nat.reduceLT, ↓Nat.reduceLeDiff, ↓Int.reduceEq, ↓Int.reduceLT, ↓Int.reduceLE, ↓reduceIte, zbSt, hj, htk, hXX, hX, hO, h9, ← h1, ← h2, a1, a3, a5, d1, d2, d3, m1, m2, m3, m4, m5, m6, beq_self_eq_true]
          first | done | ((repeat' split) <;> (change _ = true; kernel_rfl))
        · have d1 : (u8s lo == u8s b) = false := by rw [beq_eq_false_iff_ne]; intro e; rw [e, cb_zero.2 rfl] at ca; cases ca
          have d2 : (u8s hi == u8s b) = true := by rw [beq_iff_eq]; exact cb_zero.1 cc
          have d3 : (u8s b == u8s hi) = true := by rw [← d2]; exact Bool.beq_comm
          rw [ca] at a1 m1 m2 m3 m4
          rw [cc] at a3 a5 m1 m2 m5 m6
          simp only [u8s, decide_true, decide_false, Int.reduceEq, Int.reduceNeg, Int.neg_zero, Int.neg_neg, reduceCtorEq, holdsOp, Int.reduceLE, Int.reduceLT, ↓reduceIte, Bool.and_true, Bool.and_false, Bool.true_and, Bool.false_and, Bool.or_true, Bool.or_false, Bool.true_or, Bool.false_or, Bool.not_true, Bool.not_false, or_true, or_false, true_or, false_or, or_self] at a1 a3 a5 d1 d2 d3 h1 h2 m1 m2 m3 m4 m5 m6
          simp -implicitDefEqProofs (maxSteps := 4000000) (disch := omega) only [go_sem, go_sem_proc, dr, Nat.min_def, ↓Nat.reduceBEq, ↓Nat.reduceEqDiff, ↓Nat.reduceLT, ↓Nat.reduceLeDiff, ↓Int.reduceEq, ↓Int.reduceLT, ↓Int.reduceLE, ↓reduceIte, zbSt, hj, htk, hXX, hX, hO, h9, ← h1, ← h2, a1, a3, a5, d1, d2, d3, m1, m2, m3, m4, m5, m6, beq_self_eq_true]
          first | done | ((repeat' split) <;> (change _ = true; kernel_rfl))
        · have d1 : (u8s lo == u8s b) = false := by rw [beq_eq_false_iff_ne]; intro e; rw [e, cb_zero.2 rfl] at ca; cases ca
          have d2 : (u8s hi == u8s b) = false := by rw [beq_eq_false_iff_ne]; intro e; rw [e, cb_zero.2 rfl] at cc; cases cc
          have d3 : (u8s b == u8s hi) = false := by rw [← d2]; exact Bool.beq_comm
          rw [ca] at a1 m1 m2 m3 m4
          rw [cc] at a3 a5 m1 m2 m5 m6
          simp only [u8s, decide_true, decide_false, Int.reduceEq, Int.reduceNeg, Int.neg_zero, Int.neg_neg, reduceCtorEq, holdsOp, Int.reduceLE, Int.reduceLT, ↓reduceIte, Bool.and_true, Bool.and_false, Bool.true_and, Bool.false_and, Bool.or_true, Bool.or_false, Bool.true_or, Bool.false_or, Bool.not_true, Bool.not_false, or_true, or_false, true_or, false_or, or_self] at a1 a3 a5 d1 d2 d3 h1 h2 m1 m2 m3 m4 m5 m6
          simp -implicitDefEqProofs (maxSteps := 4000000) (disch := omega) only [go_sem, go_sem_proc, dr, Nat.min_def, ↓Nat.reduceBEq, ↓Nat.reduceEqDiff, ↓Nat.reduceLT, ↓Nat.reduceLeDiff, ↓Int.reduceEq, ↓Int.reduceLT, ↓Int.reduceLE, ↓reduceIte, zbSt, hj, htk, hXX, hX, hO, h9, ← h1, ← h2, a1, a3, a5, d1, d2, d3, m1, m2, m3, m4, m5, m6, beq_self_eq_true]
          first | done | ((repeat' split) <;> (change _ = true; kernel_rfl))
        · have d1 : (u8s lo == u8s b) = true := by rw [beq_iff_eq]; exact cb_zero.1 ca
          have d2 : (u8s hi == u8s b) = false := by rw [beq_eq_false_iff_ne]; intro e; rw [e, cb_zero.2 rfl] at cc; cases cc
          have d3 : (u8s b == u8s hi) = false := by rw [← d2]; exact Bool.beq_comm
          rw [ca] at a1 m1 m2 m3 m4
          rw [cc] at a3 a5 m1 m2 m5 m6
          simp only [u8s, decide_true, decide_false, Int.reduceEq, Int.reduceNeg, Int.neg_zero, Int.neg_neg, reduceCtorEq, holdsOp, Int.reduceLE, Int.reduceLT, ↓reduceIte, Bool.and_true, Bool.and_false, Bool.true_and, Bool.false_and, Bool.or_true, Bool.or_false, Bool.true_or, Bool.false_or, Bool.not_true, Bool.not_false, or_true, or_false, true_or, false_or, or_self] at a1 a3 a5 d1 d2 d3 h1 h2 m1 m2 m3 m4 m5 m6
          simp -implicitDefEqProofs (maxSteps := 4000000) (disch := omega) only [go_sem, go_sem_proc, dr, Nat.min_def, ↓Nat.reduceBEq, ↓Nat.reduceEqDiff, ↓Nat.reduceLT, ↓Nat.reduceLeDiff, ↓Int.reduceEq, ↓Int.reduceLT, ↓Int.reduceLE, ↓reduceIte, zbSt, hj, htk, hXX, hX, hO, h9, ← h1, ← h2, a1, a3, a5, d1, d2, d3, m1, m2, m3, m4, m5, m6, beq_self_eq_true]
          first | done | ((repeat' split) <;> (change _ = true; kernel_rfl))
        · have d1 : (u8s lo == u8s b) = true := by rw [beq_iff_eq]; exact cb_zero.1 ca
          have d2 : (u8s hi == u8s b) = true := by rw [beq_iff_eq]; exact cb_zero.1 cc
          have d3 : (u8s b == u8s hi) = true := by rw [← d2]; exact Bool.beq_comm
          rw [ca] at a1 m1 m2 m3 m4
          rw [cc] at a3 a5 m1 m2 m5 m6
          simp only [u8s, decide_true, decide_false, Int.reduceEq, Int.reduceNeg, Int.neg_zero, Int.neg_neg, reduceCtorEq, holdsOp, Int.reduceLE, Int.reduceLT, ↓reduceIte, Bool.and_true, Bool.and_false, Bool.true_and, Bool.false_and, Bool.or_true, Bool.or_false, Bool.true_or, Bool.false_or, Bool.not_true, Bool.not_false, or_true, or_false, true_or, false_or, or_self] at a1 a3 a5 d1 d2 d3 h1 h2 m1 m2 m3 m4 m5 m6
          simp -implicitDefEqProofs (maxSteps := 4000000) (disch := omega) only [go_sem, go_sem_proc, dr, Nat.min_def, ↓Nat.reduceBEq, ↓Nat.reduceEqDiff, ↓Nat.reduceLT, ↓Nat.reduceLeDiff, ↓Int.reduceEq, ↓Int.reduceLT, ↓Int.reduceLE, ↓reduceIte, zbSt, hj, htk, hXX, hX, hO, h9, ← h1, ← h2, a1, a3, a5, d1, d2, d3, m1, m2, m3, m4, m5, m6, beq_self_eq_true]
          first | done | ((repeat' split) <;> (change _ = true; kernel_rfl))
        · have d1 : (u8s lo == u8s b) = true := by rw [beq_iff_eq]; exact cb_zero.1 ca
          have d2 : (u8s hi == u8s b) = false := by rw [beq_eq_false_iff_ne]; intro e; rw [e, cb_zero.2 rfl] at cc; cases cc
          have d3 : (u8s b == u8s hi) = false := by rw [← d2]; exact Bool.beq_comm
          rw [ca] at a1 m1 m2 m3 m4
          rw [cc] at a3 a5 m1 m2 m5 m6
          simp only [u8s, decide_true, decide_false, Int.reduceEq, Int.reduceNeg, Int.neg_zero, Int.neg_neg, reduceCtorEq, holdsOp, Int.reduceLE, Int.reduceLT, ↓reduceIte, Bool.and_true, Bool.and_false, Bool.true_and, Bool.false_and, Bool.or_true, Bool.or_false, Bool.true_or, Bool.false_or, Bool.not_true, Bool.not_false, or_true, or_false, true_or, false_or, or_self] at a1 a3 a5 d1 d2 d3 h1 h2 m1 m2 m3 m4 m5 m6
          simp -implicitDefEqProofs (maxSteps := 4000000) (disch := omega) only [go_sem, go_sem_proc, dr, Nat.min_def, ↓Nat.reduceBEq, ↓Nat.reduceEqDiff, ↓Nat.reduceLT, ↓Nat.reduceLeDiff, ↓Int.reduceEq, ↓Int.reduceLT, ↓Int.reduceLE, ↓reduceIte, zbSt, hj, htk, hXX, hX, hO, h9, ← h1, ← h2, a1, a3, a5, d1, d2, d3, m1, m2, m3, m4, m5, m6, beq_self_eq_true]
          first | done | ((repeat' split) <;> (change _ = true; kernel_rfl))
        · have d1 : (u8s lo == u8s b) = false := by rw [beq_eq_false_iff_ne]; intro e; rw [e, cb_zero.2 rfl] at ca; cases ca
          have d2 : (u8s hi == u8s b) = false := by rw [beq_eq_false_iff_ne]; intro e; rw [e, cb_zero.2 rfl] at cc; cases cc
          have d3 : (u8s b == u8s hi) = false := by rw [← d2]; exact Bool.beq_comm
          rw [ca] at a1 m1 m2 m3 m4
          rw [cc] at a3 a5 m1 m2 m5 m6
          simp only [u8s, decide_true, decide_false, Int.reduceEq, Int.reduceNeg, Int.neg_zero, Int.neg_neg, reduceCtorEq, holdsOp, Int.reduceLE, Int.reduceLT, ↓reduceIte, Bool.and_true, Bool.and_false, Bool.true_and, Bool.false_and, Bool.or_true, Bool.or_false, Bool.true_or, Bool.false_or, Bool.not_true, Bool.not_false, or_true, or_false, true_or, false_or, or_self] at a1 a3 a5 d1 d2 d3 h1 h2 m1 m2 m3 m4 m5 m6
          simp -implicitDefEqProofs (maxSteps := 4000000) (disch := omega) only [go_sem, go_sem_proc, dr, Nat.min_def, ↓Nat.reduceBEq, ↓Nat.reduceEqDiff, ↓Nat.reduceLT, ↓Nat.reduceLeDiff, ↓Int.reduceEq, ↓Int.reduceLT, ↓Int.reduceLE, ↓reduceIte, zbSt, hj, htk, hXX, hX, hO, h9, ← h1, ← h2, a1, a3, a5, d1, d2, d3, m1, m2, m3, m4, m5, m6, beq_self_eq_true]
          first | done | ((repeat' split) <;> (change _ = true; kernel_rfl))
        · have d1 : (u8s lo == u8s b) = false := by rw [beq_eq_false_iff_ne]; intro e; rw [e, cb_zero.2 rfl] at ca; cases ca
          have d2 : (u8s hi == u8s b) = true := by rw [beq_iff_eq]; exact cb_zero.1 cc
          have d3 : (u8s b == u8s hi) = true := by rw [← d2]; exact Bool.beq_comm
          rw [ca] at a1 m1 m2 m3 m4
          rw [cc] at a3 a5 m1 m2 m5 m6
          simp only [u8s, decide_true, decide_false, Int.reduceEq, Int.reduceNeg, Int.neg_zero, Int.neg_neg, reduceCtorEq, holdsOp, Int.reduceLE, Int.reduceLT, ↓reduceIte, Bool.and_true, Bool.and_false, Bool.true_and, Bool.false_and, Bool.or_true, Bool.or_false, Bool.true_or, Bool.false_or, Bool.not_true, Bool.not_false, or_true, or_false, true_or, false_or, or_self] at a1 a3 a5 d1 d2 d3 h1 h2 m1 m2 m3 m4 m5 m6
          simp -implicitDefEqProofs (maxSteps := 4000000) (disch := omega) only [go_sem, go_sem_proc, dr, Nat.min_def, ↓Nat.reduceBEq, ↓Nat.reduceEqDiff, ↓Nat.reduceLT, ↓Nat.reduceLeDiff, ↓Int.reduceEq, ↓Int.reduceLT, ↓Int.reduceLE, ↓reduceIte, zbSt, hj, htk, hXX, hX, hO, h9, ← h1, ← h2, a1, a3, a5, d1, d2, d3, m1, m2, m3, m4, m5, m6, beq_self_eq_true]
          first | done | ((repeat' split) <;> (change _ = true; kernel_rfl))
        · have d1 : (u8s lo == u8s b) = false := by rw [beq_eq_false_iff_ne]; intro e; rw [e, cb_zero.2 rfl] at ca; cases ca
          have d2 : (u8s hi == u8s b) = false := by rw [beq_eq_false_iff_ne]; intro e; rw [e, cb_zero.2 rfl] at cc; cases cc
          have d3 : (u8s b == u8s hi) = false := by rw [← d2]; exact Bool.beq_comm
          rw [ca] at a1 m1 m2 m3 m4
          rw [cc] at a3 a5 m1 m2 m5 m6
          simp only [u8s, decide_true, decide_false, Int.reduceEq, Int.reduceNeg, Int.neg_zero, Int.neg_neg, reduceCtorEq, holdsOp, Int.reduceLE, Int.reduceLT, ↓reduceIte, Bool.and_true, Bool.and_false, Bool.true_and, Bool.false_and, Bool.or_true, Bool.or_false, Bool.true_or, Bool.false_or, Bool.not_true, Bool.not_false, or_true, or_false, true_or, false_or, or_self] at a1 a3 a5 d1 d2 d3 h1 h2 m1 m2 m3 m4 m5 m6
          simp -implicitDefEqProofs (maxSteps := 4000000) (disch := omega) only [go_sem, go_sem_proc, dr, Nat.min_def, ↓Nat.reduceBEq, ↓Nat.reduceEqDiff, ↓Nat.reduceLT, ↓Nat.reduceLeDiff, ↓Int.reduceEq, ↓Int.reduceLT, ↓Int.reduceLE, ↓reduceIte, zbSt, hj, htk, hXX, hX, hO, h9, ← h1, ← h2, a1, a3, a5, d1, d2, d3, m1, m2, m3, m4, m5, m6, beq_self_eq_true]
          first | done | ((repeat' split) <;> (change _ = true; kernel_rfl))
end Go.Proofs.Ytjhdickfkpcccaa.D
