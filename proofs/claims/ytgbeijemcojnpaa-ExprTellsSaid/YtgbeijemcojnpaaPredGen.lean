/- Predicates of numbers: what the statements' own function comes to. -/
import Derived.Test.YtgbeijemcojnpaaPred2
import Derived.Test.YtgbeijemcojnpaaDenL2

namespace Go.Proofs.Ytgbeijemcojnpaa.D
open Go Go.Den
set_option linter.unusedSimpArgs false
set_option linter.unusedVariables false
set_option maxRecDepth 20000
set_option maxHeartbeats 4000000
theorem leaf_walk {s : List Col} {l : List Int} {i : Nat} {d : Nat} {k : Int} (hs : 1 ≤ s.length ∧ s.length ≤ 20) (hi : i ≤ 1000000000000) (hd : d ≤ 100) (hk0 : 0 ≤ k ∧ k ≤ 4)
    (hk : (if d ≤ 1 ∧ 4 < nAt l i % 8 then nAt l i % 8 - 4 else nAt l i % 8) = k) :
    dw E 14 [.agg [.sl 3 (s.map Col.pv)], .sl 1 (ints .i64 l), .int .i64 i, .int .i64 d] [] = some (.agg [.int .i64 ((leafN s (nAt l i) k).kind), .int .i64 ((leafN s (nAt l i) k).col), .int .i64 ((leafN s (nAt l i) k).op), .bool ((leafN s (nAt l i) k).val.null), .int .i64 ((leafN s (nAt l i) k).val.kind), .int .i64 ((leafN s (nAt l i) k).val.int), bl ((leafN s (nAt l i) k).val.bytes), pl ((leafN s (nAt l i) k).nil) ((leafN s (nAt l i) k).list)], []) := by
  refine dw_in (fn := Try.f14) rfl body14 (by simp) ?_
  obtain ⟨n, hn⟩ : ∃ n, nAt l i = n := ⟨_, rfl⟩
  have hcl := colAt_lt hs.1 n
  have hci := colAt_int hs.1 n
  rw [hn] at hk ⊢
  have hnl : (i < l.length ∧ l[i]? = some n) ∨ (l.length ≤ i ∧ (i : Int) * 7919 = n) := by
    unfold nAt at hn
    by_cases h : i < l.length
    · left; rw [List.getD_eq_getElem?_getD, List.getElem?_eq_getElem h] at hn; exact ⟨h, by rw [List.getElem?_eq_getElem h]; simpa using hn⟩
    · right; rw [List.getD_eq_getElem?_getD, List.getElem?_eq_none (by omega)] at hn; exact ⟨by omega, by simpa using hn⟩
  obtain ⟨col, hcol, _, _⟩ := take_get hcl
  have hgc : s.getD (colAt s n) keyCol = col := by rw [List.getD_eq_getElem?_getD, hcol]; rfl
  have hk' : (d ≤ 1 ∧ 4 < n % 8 ∧ n % 8 - 4 = k) ∨ (d ≤ 1 ∧ n % 8 ≤ 4 ∧ n % 8 = k) ∨ (2 ≤ d ∧ 0 ≤ n % 8 ∧ n % 8 = k) := by
    split at hk
    · exact .inl ⟨by omega, by omega, hk⟩
    · by_cases hd1 : d ≤ 1
      · exact .inr (.inl ⟨hd1, by omega, hk⟩)
      · exact .inr (.inr ⟨by omega, by omega, hk⟩)
  clear hk hn
  have hleaf : leafN s n k = if k = 0 then .mk 1 0 0 valZ true [] else if k = 1 then .mk 3 (colAt s n) 0 valZ true [] else .mk 2 (colAt s n) (n / 131072 % 256 % 6 + 1) (if colAt s n = 0 then ⟨false, 1, n / 2048 % 16, none⟩ else valueN (bare0 col) (n / 2048)) true [] := by rw [leafN, hgc]
  rw [hleaf]
  clear hleaf hgc
  generalize colAt s n = cc at *
  have hV := Value_spec (nm := col.name) (k := col.kind) (nl := false) (n := n / 2048)
  rcases hnl with ⟨hil, hg⟩ | ⟨hil, hg⟩ <;> rcases hk' with ⟨h1, h2, h3⟩ | ⟨h1, h2, h3⟩ | ⟨h1, h2, h3⟩
  all_goals
    by_cases k0 : k = 0
    · subst k0
      simp only [if_true, Prd.kind, Prd.col, Prd.op, Prd.val, Prd.nil, Prd.list, valZ, pl_nil, bl_none]
      first
      | omega
      | simp -implicitDefEqProofs (maxSteps := 4000000) (disch := omega) only [go_sem, go_sem_proc, dr, Nat.min_def, ↓Nat.reduceBEq, ↓Nat.reduceEqDiff, ↓Nat.reduceLT, ↓Nat.reduceLeDiff, ↓Int.reduceEq, ↓Int.reduceLT, ↓Int.reduceLE, ↓reduceIte, hg, h3, hci]
    by_cases k1 : k = 1
    · subst k1
      simp only [if_true, if_false, Int.reduceEq, Prd.kind, Prd.col, Prd.op, Prd.val, Prd.nil, Prd.list, valZ, pl_nil, bl_none]
      simp -implicitDefEqProofs (maxSteps := 4000000) (disch := omega) only [go_sem, go_sem_proc, dr, Nat.min_def, ↓Nat.reduceBEq, ↓Nat.reduceEqDiff, ↓Nat.reduceLT, ↓Nat.reduceLeDiff, ↓Int.reduceEq, ↓Int.reduceLT, ↓Int.reduceLE, ↓reduceIte, hg, h3, hci]
    have k2 : 2 ≤ k := by omega
    by_cases c0 : cc = 0
    · simp only [k0, k1, c0, if_true, if_false, Prd.kind, Prd.col, Prd.op, Prd.val, Prd.nil, Prd.list, pl_nil, bl_none]
      subst c0
      clear k0 k1
      simp -implicitDefEqProofs (maxSteps := 4000000) (disch := omega) only [go_sem, go_sem_proc, dr, Nat.min_def, ↓Nat.reduceBEq, ↓Nat.reduceEqDiff, ↓Nat.reduceLT, ↓Nat.reduceLeDiff, ↓Int.reduceEq, ↓Int.reduceLT, ↓Int.reduceLE, ↓reduceIte, hg, h3, hci, hcol, hV]
    · simp only [k0, k1, c0, if_true, if_false, Prd.kind, Prd.col, Prd.op, Prd.val, Prd.nil, Prd.list, pl_nil, bare0]
      have c1 : 1 ≤ cc := by omega
      clear k0 k1 c0
      simp -implicitDefEqProofs (maxSteps := 4000000) (disch := omega) only [go_sem, go_sem_proc, dr, Nat.min_def, ↓Nat.reduceBEq, ↓Nat.reduceEqDiff, ↓Nat.reduceLT, ↓Nat.reduceLeDiff, ↓Int.reduceEq, ↓Int.reduceLT, ↓Int.reduceLE, ↓reduceIte, hg, h3, hci, hcol, hV]
theorem Pred_spec {s : List Col} {l : List Int} (hs : 1 ≤ s.length ∧ s.length ≤ 20) : ∀ (d i : Nat), d ≤ 100 → (i + 3) * 4 ^ d ≤ 1000000000000 →
    dw E 14 [.agg [.sl 3 (s.map Col.pv)], .sl 1 (ints .i64 l), .int .i64 i, .int .i64 d] [] =
      some (.agg [.int .i64 (predN s l d i).kind, .int .i64 (predN s l d i).col, .int .i64 (predN s l d i).op, .bool (predN s l d i).val.null, .int .i64 (predN s l d i).val.kind, .int .i64 (predN s l d i).val.int, bl (predN s l d i).val.bytes, plr 35 (predN s l d i).list], []) := by
  have leaf : ∀ (d i : Nat) (k : Int), d ≤ 100 → i ≤ 1000000000000 → 0 ≤ k ∧ k ≤ 4 → (if d ≤ 1 ∧ 4 < nAt l i % 8 then nAt l i % 8 - 4 else nAt l i % 8) = k → predN s l d i = leafN s (nAt l i) k →
      dw E 14 [.agg [.sl 3 (s.map Col.pv)], .sl 1 (ints .i64 l), .int .i64 i, .int .i64 d] [] =
      some (.agg [.int .i64 (predN s l d i).kind, .int .i64 (predN s l d i).col, .int .i64 (predN s l d i).op, .bool (predN s l d i).val.null, .int .i64 (predN s l d i).val.kind, .int .i64 (predN s l d i).val.int, bl (predN s l d i).val.bytes, plr 35 (predN s l d i).list], []) := by
    intro d i k hd hi hk0 hk hp
    have := leaf_walk (s := s) (l := l) hs hi hd hk0 hk
    rw [hp, this, leafN_list, leafN_nil, pl_nil, plr_nil]
  intro d
  induction d using Nat.strongRecOn with
  | ind d ih =>
    intro i hd hB
    have hi : i ≤ 1000000000000 := by
      have : 1 ≤ 4 ^ d := Nat.one_le_pow _ _ (by decide)
      have := Nat.le_mul_of_pos_right (i + 3) this
      omega
    have h8 : 0 ≤ nAt l i % 8 ∧ nAt l i % 8 < 8 := by omega
    match d, hd, ih, hB with
    | 0, hd, ih, hB => exact leaf 0 i (if 4 < nAt l i % 8 then nAt l i % 8 - 4 else nAt l i % 8) hd hi (by split <;> omega) (by simp) (by rw [predN])
    | 1, hd, ih, hB => exact leaf 1 i (if 4 < nAt l i % 8 then nAt l i % 8 - 4 else nAt l i % 8) hd hi (by split <;> omega) (by simp) (by rw [predN])
    | d + 2, hd, ih, hB =>
      by_cases hk4 : nAt l i % 8 ≤ 4
      · exact leaf (d + 2) i _ hd hi ⟨h8.1, hk4⟩ (by rw [if_neg (by omega)]) (by rw [predN, if_neg (by omega), if_neg (by omega)])
      · have ih' : ∀ j : Nat, j ≤ 2 → _ := fun j hj => ih (d + 1) (by omega) (3 * i + j + 1) (by omega) (by
          have : (3 * i + j + 1 + 3) * 4 ^ (d + 1) ≤ (4 * (i + 3)) * 4 ^ (d + 1) := Nat.mul_le_mul_right _ (by omega)
          have e : (4 * (i + 3)) * 4 ^ (d + 1) = (i + 3) * 4 ^ (d + 2) := by rw [Nat.pow_succ 4 (d + 1), Nat.mul_comm 4 (i + 3), Nat.mul_assoc, Nat.mul_comm 4 (4 ^ (d + 1))]
          omega)
        clear ih hB leaf
        have hnl : (i < l.length ∧ l[i]? = some (nAt l i)) ∨ (l.length ≤ i ∧ (i : Int) * 7919 = nAt l i) := by
          unfold nAt
          by_cases h : i < l.length
          · left; rw [List.getD_eq_getElem?_getD, List.getElem?_eq_getElem h]; exact ⟨h, rfl⟩
          · right; rw [List.getD_eq_getElem?_getD, List.getElem?_eq_none (by omega)]; exact ⟨by omega, rfl⟩
        have hci := colAt_int hs.1 (nAt l i)
        refine dw_in (fn := Try.f14) rfl body14 (by simp) ?_
        rw [predN]
        generalize nAt l i = n at *
        generalize colAt s n = cc at *
        rcases (show n % 8 = 5 ∨ n % 8 = 6 ∨ n % 8 = 7 by omega) with h3 | h3 | h3
        · rw [if_pos (by omega)]
          simp only [Prd.kind, Prd.col, Prd.op, Prd.val, Prd.nil, Prd.list, valZ, bl_none, h3]
          obtain ⟨m, hm, hm3⟩ : ∃ m : Nat, n / 2048 % 4 = (m : Int) ∧ m ≤ 3 := ⟨(n / 2048 % 4).toNat, by omega, by omega⟩
          rw [hm, Int.toNat_natCast]
          obtain ⟨g, hg⟩ : ∃ g : Nat → Prd, g = fun j => predN s l (d + 1) (3 * i + j + 1) := ⟨_, rfl⟩
          rw [← hg, show (List.range m).map g = upto g m from rfl]
          have hgn : ∀ j, (g j).nil = true := fun j => by rw [hg]; exact predN_nil _ _ _ _
          have ihg : ∀ j : Nat, j ≤ 2 → dw E 14 [.agg [.sl 3 (s.map Col.pv)], .sl 1 (ints .i64 l), .int .i64 (3 * (i : Int) + j + 1), .int .i64 ((d : Int) + 1)] [] = some (.agg [.int .i64 (g j).kind, .int .i64 (g j).col, .int .i64 (g j).op, .bool (g j).val.null, .int .i64 (g j).val.kind, .int .i64 (g j).val.int, bl (g j).val.bytes, plr 35 (g j).list], []) := fun j hj => by
            rw [hg]; have := ih' j hj; simpa using this
          clear ih' hg
          rcases hnl with ⟨hil, hgl⟩ | ⟨hil, hgl⟩
          · simp -implicitDefEqProofs (maxSteps := 4000000) (disch := omega) only [go_sem, go_sem_proc, dr, Nat.min_def, ↓Nat.reduceBEq, ↓Nat.reduceEqDiff, ↓Nat.reduceLT, ↓Nat.reduceLeDiff, ↓Int.reduceEq, ↓Int.reduceLT, ↓Int.reduceLE, ↓reduceIte, hgl, h3, hci, hm]
            refine runs_for (fun j : Nat => (⟨[(1, .sl 1 (ints .i64 l)), (2, .int .i64 i), (3, .int .i64 ((d : Int) + 2)), (4, .pb 1048580 0), (8, .pb 1048584 0), (9, .int .i64 n), (12, .pb 1048588 0), (13, .int .i64 j)],
              match j with
              | 0 => [(1048580, some ⟨true, .box [.sl 3 (s.map Col.pv)]⟩), (1048584, some ⟨true, .box [.int .i64 0, .int .i64 0, .int .i64 0, .bool false, .int .i64 0, .int .i64 0, .nils, .nils]⟩), (1048588, some ⟨true, .box [.int .i64 (5 - 1), .int .i64 0, .int .i64 0, .bool false, .int .i64 0, .int .i64 0, .nils, .nils]⟩)]
              | j + 1 => [(1048580, some ⟨true, .box [.sl 3 (s.map Col.pv)]⟩), (1048584, some ⟨true, .box [.int .i64 0, .int .i64 0, .int .i64 0, .bool false, .int .i64 0, .int .i64 0, .nils, .nils]⟩), (1048588, some ⟨true, .box [.int .i64 (5 - 1), .int .i64 0, .int .i64 0, .bool false, .int .i64 0, .int .i64 0, .nils, .h 2097927]⟩), (2097927, some ⟨true, .row 35 8 ((upto g (j + 1)).map Prd.pv)⟩)], 1⟩ : St)) m ?_ ?_ ?_
            · simp -implicitDefEqProofs (maxSteps := 4000000) (disch := omega) only [go_sem, go_sem_proc, dr, Nat.min_def, ↓Nat.reduceBEq, ↓Nat.reduceEqDiff, ↓Nat.reduceLT, ↓Nat.reduceLeDiff, ↓Int.reduceEq, ↓Int.reduceLT, ↓Int.reduceLE, ↓reduceIte]
            · intro j hj
              have hq := ihg j (by omega)
              have hqn := hgn j
              have hrs : upto g (j + 1) = upto g j ++ [g j] := upto_succ g j
              clear ihg hgn
              generalize g j = q at hq hqn hrs
              cases hql : q.list with
              | nil =>
                have hpv : q.pv = [.int .i64 q.kind, .int .i64 q.col, .int .i64 q.op, .bool q.val.null, .int .i64 q.val.kind, .int .i64 q.val.int, bl q.val.bytes, .nils] := by rw [pv_eq, hqn, hql]; first | rfl | rw [pl_some]
                rw [hql] at hq
                first | rw [plr_nil] at hq | rw [plr_cons] at hq
                clear hql hqn
                cases j with
                | zero =>
                  rw [show (3 * (i : Int) + ((0 : Nat) : Int) + 1) = 3 * i + 1 by omega] at hq
                  rw [upto_zero, List.nil_append] at hrs
                  simp -implicitDefEqProofs (maxSteps := 4000000) (disch := omega) only [go_sem, go_sem_proc, dr, Nat.min_def, ↓Nat.reduceBEq, ↓Nat.reduceEqDiff, ↓Nat.reduceLT, ↓Nat.reduceLeDiff, ↓Int.reduceEq, ↓Int.reduceLT, ↓Int.reduceLE, ↓reduceIte, hq, hm, (show (d : Int) + 2 - 1 = (d : Int) + 1 by omega), hrs, hpv]
                  ((repeat' split) <;> (change _ = true; kernel_rfl))
                | succ j =>
                  rw [show ((j + 1 : Nat) : Int) = (j : Int) + 1 by omega] at hq
                  simp -implicitDefEqProofs (maxSteps := 4000000) (disch := omega) only [go_sem, go_sem_proc, dr, Nat.min_def, ↓Nat.reduceBEq, ↓Nat.reduceEqDiff, ↓Nat.reduceLT, ↓Nat.reduceLeDiff, ↓Int.reduceEq, ↓Int.reduceLT, ↓Int.reduceLE, ↓reduceIte, hq, hm, (show (d : Int) + 2 - 1 = (d : Int) + 1 by omega), hrs, upto_length, List.map_append, hpv]
                  ((repeat' split) <;> (change _ = true; kernel_rfl))
              | cons a r =>
                have hpv : q.pv = [.int .i64 q.kind, .int .i64 q.col, .int .i64 q.op, .bool q.val.null, .int .i64 q.val.kind, .int .i64 q.val.int, bl q.val.bytes, .sl 8 ((a :: r).map Prd.pv)] := by rw [pv_eq, hqn, hql]; first | rfl | rw [pl_some]
                rw [hql] at hq
                first | rw [plr_nil] at hq | rw [plr_cons] at hq
                clear hql hqn
                cases j with
                | zero =>
                  rw [show (3 * (i : Int) + ((0 : Nat) : Int) + 1) = 3 * i + 1 by omega] at hq
                  rw [upto_zero, List.nil_append] at hrs
                  simp -implicitDefEqProofs (maxSteps := 4000000) (disch := omega) only [go_sem, go_sem_proc, dr, Nat.min_def, ↓Nat.reduceBEq, ↓Nat.reduceEqDiff, ↓Nat.reduceLT, ↓Nat.reduceLeDiff, ↓Int.reduceEq, ↓Int.reduceLT, ↓Int.reduceLE, ↓reduceIte, hq, hm, (show (d : Int) + 2 - 1 = (d : Int) + 1 by omega), hrs, hpv]
                  ((repeat' split) <;> (change _ = true; kernel_rfl))
                | succ j =>
                  rw [show ((j + 1 : Nat) : Int) = (j : Int) + 1 by omega] at hq
                  simp -implicitDefEqProofs (maxSteps := 4000000) (disch := omega) only [go_sem, go_sem_proc, dr, Nat.min_def, ↓Nat.reduceBEq, ↓Nat.reduceEqDiff, ↓Nat.reduceLT, ↓Nat.reduceLeDiff, ↓Int.reduceEq, ↓Int.reduceLT, ↓Int.reduceLE, ↓reduceIte, hq, hm, (show (d : Int) + 2 - 1 = (d : Int) + 1 by omega), hrs, upto_length, List.map_append, hpv]
                  ((repeat' split) <;> (change _ = true; kernel_rfl))
            · cases m with
              | zero => simp -implicitDefEqProofs (maxSteps := 4000000) (disch := omega) only [go_sem, go_sem_proc, dr, Nat.min_def, ↓Nat.reduceBEq, ↓Nat.reduceEqDiff, ↓Nat.reduceLT, ↓Nat.reduceLeDiff, ↓Int.reduceEq, ↓Int.reduceLT, ↓Int.reduceLE, ↓reduceIte, hm, upto_zero, plr_nil]
              | succ m =>
                have hc : ∃ a r, upto g (m + 1) = a :: r := by
                  cases h : upto g (m + 1) with
                  | nil => have := upto_length g (m + 1); rw [h] at this; cases this
                  | cons a r => exact ⟨a, r, rfl⟩
                obtain ⟨a, r, hc⟩ := hc
                clear ihg hgn
                simp -implicitDefEqProofs (maxSteps := 4000000) (disch := omega) only [go_sem, go_sem_proc, dr, Nat.min_def, ↓Nat.reduceBEq, ↓Nat.reduceEqDiff, ↓Nat.reduceLT, ↓Nat.reduceLeDiff, ↓Int.reduceEq, ↓Int.reduceLT, ↓Int.reduceLE, ↓reduceIte, hm, hc, plr_cons]
          · simp -implicitDefEqProofs (maxSteps := 4000000) (disch := omega) only [go_sem, go_sem_proc, dr, Nat.min_def, ↓Nat.reduceBEq, ↓Nat.reduceEqDiff, ↓Nat.reduceLT, ↓Nat.reduceLeDiff, ↓Int.reduceEq, ↓Int.reduceLT, ↓Int.reduceLE, ↓reduceIte, hgl, h3, hci, hm]
            refine runs_for (fun j : Nat => (⟨[(1, .sl 1 (ints .i64 l)), (2, .int .i64 i), (3, .int .i64 ((d : Int) + 2)), (4, .pb 1048580 0), (8, .pb 1048584 0), (9, .int .i64 n), (12, .pb 1048588 0), (13, .int .i64 j)],
              match j with
              | 0 => [(1048580, some ⟨true, .box [.sl 3 (s.map Col.pv)]⟩), (1048584, some ⟨true, .box [.int .i64 0, .int .i64 0, .int .i64 0, .bool false, .int .i64 0, .int .i64 0, .nils, .nils]⟩), (1048588, some ⟨true, .box [.int .i64 (5 - 1), .int .i64 0, .int .i64 0, .bool false, .int .i64 0, .int .i64 0, .nils, .nils]⟩)]
              | j + 1 => [(1048580, some ⟨true, .box [.sl 3 (s.map Col.pv)]⟩), (1048584, some ⟨true, .box [.int .i64 0, .int .i64 0, .int .i64 0, .bool false, .int .i64 0, .int .i64 0, .nils, .nils]⟩), (1048588, some ⟨true, .box [.int .i64 (5 - 1), .int .i64 0, .int .i64 0, .bool false, .int .i64 0, .int .i64 0, .nils, .h 2097927]⟩), (2097927, some ⟨true, .row 35 8 ((upto g (j + 1)).map Prd.pv)⟩)], 1⟩ : St)) m ?_ ?_ ?_
            · simp -implicitDefEqProofs (maxSteps := 4000000) (disch := omega) only [go_sem, go_sem_proc, dr, Nat.min_def, ↓Nat.reduceBEq, ↓Nat.reduceEqDiff, ↓Nat.reduceLT, ↓Nat.reduceLeDiff, ↓Int.reduceEq, ↓Int.reduceLT, ↓Int.reduceLE, ↓reduceIte]
            · intro j hj
              have hq := ihg j (by omega)
              have hqn := hgn j
              have hrs : upto g (j + 1) = upto g j ++ [g j] := upto_succ g j
              clear ihg hgn
              generalize g j = q at hq hqn hrs
              cases hql : q.list with
              | nil =>
                have hpv : q.pv = [.int .i64 q.kind, .int .i64 q.col, .int .i64 q.op, .bool q.val.null, .int .i64 q.val.kind, .int .i64 q.val.int, bl q.val.bytes, .nils] := by rw [pv_eq, hqn, hql]; first | rfl | rw [pl_some]
                rw [hql] at hq
                first | rw [plr_nil] at hq | rw [plr_cons] at hq
                clear hql hqn
                cases j with
                | zero =>
                  rw [show (3 * (i : Int) + ((0 : Nat) : Int) + 1) = 3 * i + 1 by omega] at hq
                  rw [upto_zero, List.nil_append] at hrs
                  simp -implicitDefEqProofs (maxSteps := 4000000) (disch := omega) only [go_sem, go_sem_proc, dr, Nat.min_def, ↓Nat.reduceBEq, ↓Nat.reduceEqDiff, ↓Nat.reduceLT, ↓Nat.reduceLeDiff, ↓Int.reduceEq, ↓Int.reduceLT, ↓Int.reduceLE, ↓reduceIte, hq, hm, (show (d : Int) + 2 - 1 = (d : Int) + 1 by omega), hrs, hpv]
                  ((repeat' split) <;> (change _ = true; kernel_rfl))
                | succ j =>
                  rw [show ((j + 1 : Nat) : Int) = (j : Int) + 1 by omega] at hq
                  simp -implicitDefEqProofs (maxSteps := 4000000) (disch := omega) only [go_sem, go_sem_proc, dr, Nat.min_def, ↓Nat.reduceBEq, ↓Nat.reduceEqDiff, ↓Nat.reduceLT, ↓Nat.reduceLeDiff, ↓Int.reduceEq, ↓Int.reduceLT, ↓Int.reduceLE, ↓reduceIte, hq, hm, (show (d : Int) + 2 - 1 = (d : Int) + 1 by omega), hrs, upto_length, List.map_append, hpv]
                  ((repeat' split) <;> (change _ = true; kernel_rfl))
              | cons a r =>
                have hpv : q.pv = [.int .i64 q.kind, .int .i64 q.col, .int .i64 q.op, .bool q.val.null, .int .i64 q.val.kind, .int .i64 q.val.int, bl q.val.bytes, .sl 8 ((a :: r).map Prd.pv)] := by rw [pv_eq, hqn, hql]; first | rfl | rw [pl_some]
                rw [hql] at hq
                first | rw [plr_nil] at hq | rw [plr_cons] at hq
                clear hql hqn
                cases j with
                | zero =>
                  rw [show (3 * (i : Int) + ((0 : Nat) : Int) + 1) = 3 * i + 1 by omega] at hq
                  rw [upto_zero, List.nil_append] at hrs
                  simp -implicitDefEqProofs (maxSteps := 4000000) (disch := omega) only [go_sem, go_sem_proc, dr, Nat.min_def, ↓Nat.reduceBEq, ↓Nat.reduceEqDiff, ↓Nat.reduceLT, ↓Nat.reduceLeDiff, ↓Int.reduceEq, ↓Int.reduceLT, ↓Int.reduceLE, ↓reduceIte, hq, hm, (show (d : Int) + 2 - 1 = (d : Int) + 1 by omega), hrs, hpv]
                  ((repeat' split) <;> (change _ = true; kernel_rfl))
                | succ j =>
                  rw [show ((j + 1 : Nat) : Int) = (j : Int) + 1 by omega] at hq
                  simp -implicitDefEqProofs (maxSteps := 4000000) (disch := omega) only [go_sem, go_sem_proc, dr, Nat.min_def, ↓Nat.reduceBEq, ↓Nat.reduceEqDiff, ↓Nat.reduceLT, ↓Nat.reduceLeDiff, ↓Int.reduceEq, ↓Int.reduceLT, ↓Int.reduceLE, ↓reduceIte, hq, hm, (show (d : Int) + 2 - 1 = (d : Int) + 1 by omega), hrs, upto_length, List.map_append, hpv]
                  ((repeat' split) <;> (change _ = true; kernel_rfl))
            · cases m with
              | zero => simp -implicitDefEqProofs (maxSteps := 4000000) (disch := omega) only [go_sem, go_sem_proc, dr, Nat.min_def, ↓Nat.reduceBEq, ↓Nat.reduceEqDiff, ↓Nat.reduceLT, ↓Nat.reduceLeDiff, ↓Int.reduceEq, ↓Int.reduceLT, ↓Int.reduceLE, ↓reduceIte, hm, upto_zero, plr_nil]
              | succ m =>
                have hc : ∃ a r, upto g (m + 1) = a :: r := by
                  cases h : upto g (m + 1) with
                  | nil => have := upto_length g (m + 1); rw [h] at this; cases this
                  | cons a r => exact ⟨a, r, rfl⟩
                obtain ⟨a, r, hc⟩ := hc
                clear ihg hgn
                simp -implicitDefEqProofs (maxSteps := 4000000) (disch := omega) only [go_sem, go_sem_proc, dr, Nat.min_def, ↓Nat.reduceBEq, ↓Nat.reduceEqDiff, ↓Nat.reduceLT, ↓Nat.reduceLeDiff, ↓Int.reduceEq, ↓Int.reduceLT, ↓Int.reduceLE, ↓reduceIte, hm, hc, plr_cons]
        · rw [if_pos (by omega)]
          simp only [Prd.kind, Prd.col, Prd.op, Prd.val, Prd.nil, Prd.list, valZ, bl_none, h3]
          obtain ⟨m, hm, hm3⟩ : ∃ m : Nat, n / 2048 % 4 = (m : Int) ∧ m ≤ 3 := ⟨(n / 2048 % 4).toNat, by omega, by omega⟩
          rw [hm, Int.toNat_natCast]
          obtain ⟨g, hg⟩ : ∃ g : Nat → Prd, g = fun j => predN s l (d + 1) (3 * i + j + 1) := ⟨_, rfl⟩
          rw [← hg, show (List.range m).map g = upto g m from rfl]
          have hgn : ∀ j, (g j).nil = true := fun j => by rw [hg]; exact predN_nil _ _ _ _
          have ihg : ∀ j : Nat, j ≤ 2 → dw E 14 [.agg [.sl 3 (s.map Col.pv)], .sl 1 (ints .i64 l), .int .i64 (3 * (i : Int) + j + 1), .int .i64 ((d : Int) + 1)] [] = some (.agg [.int .i64 (g j).kind, .int .i64 (g j).col, .int .i64 (g j).op, .bool (g j).val.null, .int .i64 (g j).val.kind, .int .i64 (g j).val.int, bl (g j).val.bytes, plr 35 (g j).list], []) := fun j hj => by
            rw [hg]; have := ih' j hj; simpa using this
          clear ih' hg
          rcases hnl with ⟨hil, hgl⟩ | ⟨hil, hgl⟩
          · simp -implicitDefEqProofs (maxSteps := 4000000) (disch := omega) only [go_sem, go_sem_proc, dr, Nat.min_def, ↓Nat.reduceBEq, ↓Nat.reduceEqDiff, ↓Nat.reduceLT, ↓Nat.reduceLeDiff, ↓Int.reduceEq, ↓Int.reduceLT, ↓Int.reduceLE, ↓reduceIte, hgl, h3, hci, hm]
            refine runs_for (fun j : Nat => (⟨[(1, .sl 1 (ints .i64 l)), (2, .int .i64 i), (3, .int .i64 ((d : Int) + 2)), (4, .pb 1048580 0), (8, .pb 1048584 0), (9, .int .i64 n), (12, .pb 1048588 0), (13, .int .i64 j)],
              match j with
              | 0 => [(1048580, some ⟨true, .box [.sl 3 (s.map Col.pv)]⟩), (1048584, some ⟨true, .box [.int .i64 0, .int .i64 0, .int .i64 0, .bool false, .int .i64 0, .int .i64 0, .nils, .nils]⟩), (1048588, some ⟨true, .box [.int .i64 (6 - 1), .int .i64 0, .int .i64 0, .bool false, .int .i64 0, .int .i64 0, .nils, .nils]⟩)]
              | j + 1 => [(1048580, some ⟨true, .box [.sl 3 (s.map Col.pv)]⟩), (1048584, some ⟨true, .box [.int .i64 0, .int .i64 0, .int .i64 0, .bool false, .int .i64 0, .int .i64 0, .nils, .nils]⟩), (1048588, some ⟨true, .box [.int .i64 (6 - 1), .int .i64 0, .int .i64 0, .bool false, .int .i64 0, .int .i64 0, .nils, .h 2097927]⟩), (2097927, some ⟨true, .row 35 8 ((upto g (j + 1)).map Prd.pv)⟩)], 1⟩ : St)) m ?_ ?_ ?_
            · simp -implicitDefEqProofs (maxSteps := 4000000) (disch := omega) only [go_sem, go_sem_proc, dr, Nat.min_def, ↓Nat.reduceBEq, ↓Nat.reduceEqDiff, ↓Nat.reduceLT, ↓Nat.reduceLeDiff, ↓Int.reduceEq, ↓Int.reduceLT, ↓Int.reduceLE, ↓reduceIte]
            · intro j hj
              have hq := ihg j (by omega)
              have hqn := hgn j
              have hrs : upto g (j + 1) = upto g j ++ [g j] := upto_succ g j
              clear ihg hgn
              generalize g j = q at hq hqn hrs
              cases hql : q.list with
              | nil =>
                have hpv : q.pv = [.int .i64 q.kind, .int .i64 q.col, .int .i64 q.op, .bool q.val.null, .int .i64 q.val.kind, .int .i64 q.val.int, bl q.val.bytes, .nils] := by rw [pv_eq, hqn, hql]; first | rfl | rw [pl_some]
                rw [hql] at hq
                first | rw [plr_nil] at hq | rw [plr_cons] at hq
                clear hql hqn
                cases j with
                | zero =>
                  rw [show (3 * (i : Int) + ((0 : Nat) : Int) + 1) = 3 * i + 1 by omega] at hq
                  rw [upto_zero, List.nil_append] at hrs
                  simp -implicitDefEqProofs (maxSteps := 4000000) (disch := omega) only [go_sem, go_sem_proc, dr, Nat.min_def, ↓Nat.reduceBEq, ↓Nat.reduceEqDiff, ↓Nat.reduceLT, ↓Nat.reduceLeDiff, ↓Int.reduceEq, ↓Int.reduceLT, ↓Int.reduceLE, ↓reduceIte, hq, hm, (show (d : Int) + 2 - 1 = (d : Int) + 1 by omega), hrs, hpv]
                  ((repeat' split) <;> (change _ = true; kernel_rfl))
                | succ j =>
                  rw [show ((j + 1 : Nat) : Int) = (j : Int) + 1 by omega] at hq
                  simp -implicitDefEqProofs (maxSteps := 4000000) (disch := omega) only [go_sem, go_sem_proc, dr, Nat.min_def, ↓Nat.reduceBEq, ↓Nat.reduceEqDiff, ↓Nat.reduceLT, ↓Nat.reduceLeDiff, ↓Int.reduceEq, ↓Int.reduceLT, ↓Int.reduceLE, ↓reduceIte, hq, hm, (show (d : Int) + 2 - 1 = (d : Int) + 1 by omega), hrs, upto_length, List.map_append, hpv]
                  ((repeat' split) <;> (change _ = true; kernel_rfl))
              | cons a r =>
                have hpv : q.pv = [.int .i64 q.kind, .int .i64 q.col, .int .i64 q.op, .bool q.val.null, .int .i64 q.val.kind, .int .i64 q.val.int, bl q.val.bytes, .sl 8 ((a :: r).map Prd.pv)] := by rw [pv_eq, hqn, hql]; first | rfl | rw [pl_some]
                rw [hql] at hq
                first | rw [plr_nil] at hq | rw [plr_cons] at hq
                clear hql hqn
                cases j with
                | zero =>
                  rw [show (3 * (i : Int) + ((0 : Nat) : Int) + 1) = 3 * i + 1 by omega] at hq
                  rw [upto_zero, List.nil_append] at hrs
                  simp -implicitDefEqProofs (maxSteps := 4000000) (disch := omega) only [go_sem, go_sem_proc, dr, Nat.min_def, ↓Nat.reduceBEq, ↓Nat.reduceEqDiff, ↓Nat.reduceLT, ↓Nat.reduceLeDiff, ↓Int.reduceEq, ↓Int.reduceLT, ↓Int.reduceLE, ↓reduceIte, hq, hm, (show (d : Int) + 2 - 1 = (d : Int) + 1 by omega), hrs, hpv]
                  ((repeat' split) <;> (change _ = true; kernel_rfl))
                | succ j =>
                  rw [show ((j + 1 : Nat) : Int) = (j : Int) + 1 by omega] at hq
                  simp -implicitDefEqProofs (maxSteps := 4000000) (disch := omega) only [go_sem, go_sem_proc, dr, Nat.min_def, ↓Nat.reduceBEq, ↓Nat.reduceEqDiff, ↓Nat.reduceLT, ↓Nat.reduceLeDiff, ↓Int.reduceEq, ↓Int.reduceLT, ↓Int.reduceLE, ↓reduceIte, hq, hm, (show (d : Int) + 2 - 1 = (d : Int) + 1 by omega), hrs, upto_length, List.map_append, hpv]
                  ((repeat' split) <;> (change _ = true; kernel_rfl))
            · cases m with
              | zero => simp -implicitDefEqProofs (maxSteps := 4000000) (disch := omega) only [go_sem, go_sem_proc, dr, Nat.min_def, ↓Nat.reduceBEq, ↓Nat.reduceEqDiff, ↓Nat.reduceLT, ↓Nat.reduceLeDiff, ↓Int.reduceEq, ↓Int.reduceLT, ↓Int.reduceLE, ↓reduceIte, hm, upto_zero, plr_nil]
              | succ m =>
                have hc : ∃ a r, upto g (m + 1) = a :: r := by
                  cases h : upto g (m + 1) with
                  | nil => have := upto_length g (m + 1); rw [h] at this; cases this
                  | cons a r => exact ⟨a, r, rfl⟩
                obtain ⟨a, r, hc⟩ := hc
                clear ihg hgn
                simp -implicitDefEqProofs (maxSteps := 4000000) (disch := omega) only [go_sem, go_sem_proc, dr, Nat.min_def, ↓Nat.reduceBEq, ↓Nat.reduceEqDiff, ↓Nat.reduceLT, ↓Nat.reduceLeDiff, ↓Int.reduceEq, ↓Int.reduceLT, ↓Int.reduceLE, ↓reduceIte, hm, hc, plr_cons]
          · simp -implicitDefEqProofs (maxSteps := 4000000) (disch := omega) only [go_sem, go_sem_proc, dr, Nat.min_def, ↓Nat.reduceBEq, ↓Nat.reduceEqDiff, ↓Nat.reduceLT, ↓Nat.reduceLeDiff, ↓Int.reduceEq, ↓Int.reduceLT, ↓Int.reduceLE, ↓reduceIte, hgl, h3, hci, hm]
            refine runs_for (fun j : Nat => (⟨[(1, .sl 1 (ints .i64 l)), (2, .int .i64 i), (3, .int .i64 ((d : Int) + 2)), (4, .pb 1048580 0), (8, .pb 1048584 0), (9, .int .i64 n), (12, .pb 1048588 0), (13, .int .i64 j)],
              match j with
              | 0 => [(1048580, some ⟨true, .box [.sl 3 (s.map Col.pv)]⟩), (1048584, some ⟨true, .box [.int .i64 0, .int .i64 0, .int .i64 0, .bool false, .int .i64 0, .int .i64 0, .nils, .nils]⟩), (1048588, some ⟨true, .box [.int .i64 (6 - 1), .int .i64 0, .int .i64 0, .bool false, .int .i64 0, .int .i64 0, .nils, .nils]⟩)]
              | j + 1 => [(1048580, some ⟨true, .box [.sl 3 (s.map Col.pv)]⟩), (1048584, some ⟨true, .box [.int .i64 0, .int .i64 0, .int .i64 0, .bool false, .int .i64 0, .int .i64 0, .nils, .nils]⟩), (1048588, some ⟨true, .box [.int .i64 (6 - 1), .int .i64 0, .int .i64 0, .bool false, .int .i64 0, .int .i64 0, .nils, .h 2097927]⟩), (2097927, some ⟨true, .row 35 8 ((upto g (j + 1)).map Prd.pv)⟩)], 1⟩ : St)) m ?_ ?_ ?_
            · simp -implicitDefEqProofs (maxSteps := 4000000) (disch := omega) only [go_sem, go_sem_proc, dr, Nat.min_def, ↓Nat.reduceBEq, ↓Nat.reduceEqDiff, ↓Nat.reduceLT, ↓Nat.reduceLeDiff, ↓Int.reduceEq, ↓Int.reduceLT, ↓Int.reduceLE, ↓reduceIte]
            · intro j hj
              have hq := ihg j (by omega)
              have hqn := hgn j
              have hrs : upto g (j + 1) = upto g j ++ [g j] := upto_succ g j
              clear ihg hgn
              generalize g j = q at hq hqn hrs
              cases hql : q.list with
              | nil =>
                have hpv : q.pv = [.int .i64 q.kind, .int .i64 q.col, .int .i64 q.op, .bool q.val.null, .int .i64 q.val.kind, .int .i64 q.val.int, bl q.val.bytes, .nils] := by rw [pv_eq, hqn, hql]; first | rfl | rw [pl_some]
                rw [hql] at hq
                first | rw [plr_nil] at hq | rw [plr_cons] at hq
                clear hql hqn
                cases j with
                | zero =>
                  rw [show (3 * (i : Int) + ((0 : Nat) : Int) + 1) = 3 * i + 1 by omega] at hq
                  rw [upto_zero, List.nil_append] at hrs
                  simp -implicitDefEqProofs (maxSteps := 4000000) (disch := omega) only [go_sem, go_sem_proc, dr, Nat.min_def, ↓Nat.reduceBEq, ↓Nat.reduceEqDiff, ↓Nat.reduceLT, ↓Nat.reduceLeDiff, ↓Int.reduceEq, ↓Int.reduceLT, ↓Int.reduceLE, ↓reduceIte, hq, hm, (show (d : Int) + 2 - 1 = (d : Int) + 1 by omega), hrs, hpv]
                  ((repeat' split) <;> (change _ = true; kernel_rfl))
                | succ j =>
                  rw [show ((j + 1 : Nat) : Int) = (j : Int) + 1 by omega] at hq
                  simp -implicitDefEqProofs (maxSteps := 4000000) (disch := omega) only [go_sem, go_sem_proc, dr, Nat.min_def, ↓Nat.reduceBEq, ↓Nat.reduceEqDiff, ↓Nat.reduceLT, ↓Nat.reduceLeDiff, ↓Int.reduceEq, ↓Int.reduceLT, ↓Int.reduceLE, ↓reduceIte, hq, hm, (show (d : Int) + 2 - 1 = (d : Int) + 1 by omega), hrs, upto_length, List.map_append, hpv]
                  ((repeat' split) <;> (change _ = true; kernel_rfl))
              | cons a r =>
                have hpv : q.pv = [.int .i64 q.kind, .int .i64 q.col, .int .i64 q.op, .bool q.val.null, .int .i64 q.val.kind, .int .i64 q.val.int, bl q.val.bytes, .sl 8 ((a :: r).map Prd.pv)] := by rw [pv_eq, hqn, hql]; first | rfl | rw [pl_some]
                rw [hql] at hq
                first | rw [plr_nil] at hq | rw [plr_cons] at hq
                clear hql hqn
                cases j with
                | zero =>
                  rw [show (3 * (i : Int) + ((0 : Nat) : Int) + 1) = 3 * i + 1 by omega] at hq
                  rw [upto_zero, List.nil_append] at hrs
                  simp -implicitDefEqProofs (maxSteps := 4000000) (disch := omega) only [go_sem, go_sem_proc, dr, Nat.min_def, ↓Nat.reduceBEq, ↓Nat.reduceEqDiff, ↓Nat.reduceLT, ↓Nat.reduceLeDiff, ↓Int.reduceEq, ↓Int.reduceLT, ↓Int.reduceLE, ↓reduceIte, hq, hm, (show (d : Int) + 2 - 1 = (d : Int) + 1 by omega), hrs, hpv]
                  ((repeat' split) <;> (change _ = true; kernel_rfl))
                | succ j =>
                  rw [show ((j + 1 : Nat) : Int) = (j : Int) + 1 by omega] at hq
                  simp -implicitDefEqProofs (maxSteps := 4000000) (disch := omega) only [go_sem, go_sem_proc, dr, Nat.min_def, ↓Nat.reduceBEq, ↓Nat.reduceEqDiff, ↓Nat.reduceLT, ↓Nat.reduceLeDiff, ↓Int.reduceEq, ↓Int.reduceLT, ↓Int.reduceLE, ↓reduceIte, hq, hm, (show (d : Int) + 2 - 1 = (d : Int) + 1 by omega), hrs, upto_length, List.map_append, hpv]
                  ((repeat' split) <;> (change _ = true; kernel_rfl))
            · cases m with
              | zero => simp -implicitDefEqProofs (maxSteps := 4000000) (disch := omega) only [go_sem, go_sem_proc, dr, Nat.min_def, ↓Nat.reduceBEq, ↓Nat.reduceEqDiff, ↓Nat.reduceLT, ↓Nat.reduceLeDiff, ↓Int.reduceEq, ↓Int.reduceLT, ↓Int.reduceLE, ↓reduceIte, hm, upto_zero, plr_nil]
              | succ m =>
                have hc : ∃ a r, upto g (m + 1) = a :: r := by
                  cases h : upto g (m + 1) with
                  | nil => have := upto_length g (m + 1); rw [h] at this; cases this
                  | cons a r => exact ⟨a, r, rfl⟩
                obtain ⟨a, r, hc⟩ := hc
                clear ihg hgn
                simp -implicitDefEqProofs (maxSteps := 4000000) (disch := omega) only [go_sem, go_sem_proc, dr, Nat.min_def, ↓Nat.reduceBEq, ↓Nat.reduceEqDiff, ↓Nat.reduceLT, ↓Nat.reduceLeDiff, ↓Int.reduceEq, ↓Int.reduceLT, ↓Int.reduceLE, ↓reduceIte, hm, hc, plr_cons]
        · rw [if_neg (by omega), if_pos h3]
          have hq := ih' 0 (by omega)
          have hqn := predN_nil s l (d + 1) (3 * i + 0 + 1)
          rw [show ((3 * i + 0 + 1 : Nat) : Int) = 3 * (i : Int) + 1 by omega, show ((d + 1 : Nat) : Int) = (d : Int) + 1 by omega] at hq
          rw [show 3 * i + 1 = 3 * i + 0 + 1 by omega]
          generalize predN s l (d + 1) (3 * i + 0 + 1) = q at *
          clear ih'
          simp only [Prd.kind, Prd.col, Prd.op, Prd.val, Prd.nil, Prd.list, valZ, bl_none, plr_cons]
          rcases hnl with ⟨hil, hgl⟩ | ⟨hil, hgl⟩ <;> cases hql : q.list
          case inl.nil =>
            have hpv : q.pv = [.int .i64 q.kind, .int .i64 q.col, .int .i64 q.op, .bool q.val.null, .int .i64 q.val.kind, .int .i64 q.val.int, bl q.val.bytes, .nils] := by rw [pv_eq, hqn, hql]; first | rfl | rw [pl_some]
            rw [hql] at hq
            first | rw [plr_nil] at hq | rw [plr_cons] at hq
            clear hql hqn
            simp -implicitDefEqProofs (maxSteps := 4000000) (disch := omega) only [go_sem, go_sem_proc, dr, Nat.min_def, ↓Nat.reduceBEq, ↓Nat.reduceEqDiff, ↓Nat.reduceLT, ↓Nat.reduceLeDiff, ↓Int.reduceEq, ↓Int.reduceLT, ↓Int.reduceLE, ↓reduceIte, hgl, h3, hci, hq, (show (d : Int) + 2 - 1 = (d : Int) + 1 by omega), hpv]
          case inl.cons a r =>
            have hpv : q.pv = [.int .i64 q.kind, .int .i64 q.col, .int .i64 q.op, .bool q.val.null, .int .i64 q.val.kind, .int .i64 q.val.int, bl q.val.bytes, .sl 8 ((a :: r).map Prd.pv)] := by rw [pv_eq, hqn, hql]; first | rfl | rw [pl_some]
            rw [hql] at hq
            first | rw [plr_nil] at hq | rw [plr_cons] at hq
            clear hql hqn
            simp -implicitDefEqProofs (maxSteps := 4000000) (disch := omega) only [go_sem, go_sem_proc, dr, Nat.min_def, ↓Nat.reduceBEq, ↓Nat.reduceEqDiff, ↓Nat.reduceLT, ↓Nat.reduceLeDiff, ↓Int.reduceEq, ↓Int.reduceLT, ↓Int.reduceLE, ↓reduceIte, hgl, h3, hci, hq, (show (d : Int) + 2 - 1 = (d : Int) + 1 by omega), hpv]
          case inr.nil =>
            have hpv : q.pv = [.int .i64 q.kind, .int .i64 q.col, .int .i64 q.op, .bool q.val.null, .int .i64 q.val.kind, .int .i64 q.val.int, bl q.val.bytes, .nils] := by rw [pv_eq, hqn, hql]; first | rfl | rw [pl_some]
            rw [hql] at hq
            first | rw [plr_nil] at hq | rw [plr_cons] at hq
            clear hql hqn
            simp -implicitDefEqProofs (maxSteps := 4000000) (disch := omega) only [go_sem, go_sem_proc, dr, Nat.min_def, ↓Nat.reduceBEq, ↓Nat.reduceEqDiff, ↓Nat.reduceLT, ↓Nat.reduceLeDiff, ↓Int.reduceEq, ↓Int.reduceLT, ↓Int.reduceLE, ↓reduceIte, hgl, h3, hci, hq, (show (d : Int) + 2 - 1 = (d : Int) + 1 by omega), hpv]
          case inr.cons a r =>
            have hpv : q.pv = [.int .i64 q.kind, .int .i64 q.col, .int .i64 q.op, .bool q.val.null, .int .i64 q.val.kind, .int .i64 q.val.int, bl q.val.bytes, .sl 8 ((a :: r).map Prd.pv)] := by rw [pv_eq, hqn, hql]; first | rfl | rw [pl_some]
            rw [hql] at hq
            first | rw [plr_nil] at hq | rw [plr_cons] at hq
            clear hql hqn
            simp -implicitDefEqProofs (maxSteps := 4000000) (disch := omega) only [go_sem, go_sem_proc, dr, Nat.min_def, ↓Nat.reduceBEq, ↓Nat.reduceEqDiff, ↓Nat.reduceLT, ↓Nat.reduceLeDiff, ↓Int.reduceEq, ↓Int.reduceLT, ↓Int.reduceLE, ↓reduceIte, hgl, h3, hci, hq, (show (d : Int) + 2 - 1 = (d : Int) + 1 by omega), hpv]
end Go.Proofs.Ytgbeijemcojnpaa.D
