/- PredMore: what the law comes to. -/
import Derived.Test.YtgnjnkmjcahkeaaPredLaws
namespace Go.Proofs.Ytgnjnkmjcahkeaa.D
open Go Go.Den
set_option linter.unusedSimpArgs false
set_option linter.unusedVariables false
set_option maxRecDepth 20000
set_option maxHeartbeats 8000000
theorem pure_more (x y : Int) (hx : 1 ≤ x ∧ x ≤ 3) (hy : 1 ≤ y ∧ y ≤ 3) : (listI 2 1 [x, y] = 1 ↔ (x = 1 ∧ y = 1)) ∧ (listI 1 2 [x, y] = 1 ↔ (x = 1 ∨ y = 1)) ∧ (x = 1 → notI x ≠ 1) ∧ listI 2 1 [x, y, notI x] ≠ 1 := by
  rcases (show x = 1 ∨ x = 2 ∨ x = 3 by omega) with rfl | rfl | rfl <;> rcases (show y = 1 ∨ y = 2 ∨ y = 3 by omega) with rfl | rfl | rfl <;> decide
theorem PredMore_spec {n row : Int} {a b : List Int} : dw E 6 [.int .i64 n, .sl 1 (ints .i64 a), .sl 1 (ints .i64 b), .int .i64 row] [] = some (.bool true, []) := by
  refine dw_in (fn := Try.f6) rfl body6 (by simp) ?_
  have hs : 1 ≤ (schemaN n).length ∧ (schemaN n).length ≤ 20 := ⟨schemaN_pos n, by have := schemaN_length n; omega⟩
  have hP := Pred_spec (s := schemaN n) (l := a) hs 3 0 (by decide) (by decide)
  have hQ := Pred_spec (s := schemaN n) (l := b) hs 3 0 (by decide) (by decide)
  have hR := Row_spec (s := schemaN n) (n := row) (by omega)
  have hpn := predN_nil (schemaN n) a 3 0
  have hqn := predN_nil (schemaN n) b 3 0
  have sp := predN_Sm (schemaN n) a 3 0
  have sq := predN_Sm (schemaN n) b 3 0
  simp only [cast0, cast3] at hP hQ
  generalize predN (schemaN n) a 3 0 = p at hP hpn sp
  generalize predN (schemaN n) b 3 0 = q at hQ hqn sq
  obtain ⟨g1, g2, g3, g4⟩ := pure_more (p.eval (rowN (schemaN n) row)) (q.eval (rowN (schemaN n) row)) (eval_range _ _) (eval_range _ _)
  have w1 : ∀ (r : List Val) (x : Prd), (Prd.mk 6 0 0 valZ false [x.still]).eval r = notI (x.eval r) := fun r x => ev_not
  have w2 : ∀ (r : List Val) (x y : Prd), (Prd.mk 4 0 0 valZ false [x.still, y.still]).eval r = listI 2 1 [x.eval r, y.eval r] := fun r x y => ev_all (l := [x, y])
  have w3 : ∀ (r : List Val) (x y : Prd), (Prd.mk 5 0 0 valZ false [x.still, y.still]).eval r = listI 1 2 [x.eval r, y.eval r] := fun r x y => ev_any (l := [x, y])
  have w4 : ∀ (r : List Val) (x y z : Prd), (Prd.mk 4 0 0 valZ false [x.still, y.still, z.still]).eval r = listI 2 1 [x.eval r, y.eval r, z.eval r] := fun r x y z => ev_all (l := [x, y, z])
  rcases hpl : p.list with _ | ⟨a, r⟩ <;> rcases hql : q.list with _ | ⟨a', r'⟩
  · have vp : p.pv = [.int .i64 p.kind, .int .i64 p.col, .int .i64 p.op, .bool p.val.null, .int .i64 p.val.kind, .int .i64 p.val.int, bl p.val.bytes, .nils] := by rw [pv_eq, hpn, hpl]; first | rfl | rw [pl_some]
    have vq : q.pv = [.int .i64 q.kind, .int .i64 q.col, .int .i64 q.op, .bool q.val.null, .int .i64 q.val.kind, .int .i64 q.val.int, bl q.val.bytes, .nils] := by rw [pv_eq, hqn, hql]; first | rfl | rw [pl_some]
    rw [hpl] at hP
    rw [hql] at hQ
    first | rw [plr_nil] at hP | rw [plr_cons] at hP
    first | rw [plr_nil] at hQ | rw [plr_cons] at hQ
    clear hpl hql hpn hqn
    obtain ⟨np, hnp⟩ : ∃ x, x = Prd.mk 6 0 0 valZ false [Prd.still p] := ⟨_, rfl⟩
    have snp : Sm np := by rw [hnp]; exact .mk (by simp [valZ, bz]) (by simp) (by intro y hy; simp only [List.mem_cons, List.not_mem_nil, or_false] at hy; first | (subst hy; exact Sm.still (by assumption)) | (rcases hy with rfl | rfl <;> exact Sm.still (by assumption)) | (rcases hy with rfl | rfl | rfl <;> exact Sm.still (by assumption)))
    have vnp : np.pv = [.int .i64 6, .int .i64 0, .int .i64 0, .bool false, .int .i64 0, .int .i64 0, .nils, .sl 8 [(Prd.still p).pv]] := by rw [hnp, pv_mk, pl_false]; rfl
    have cnp := Not_pv (p := p) sp
    rw [vp] at cnp
    simp only [List.map_cons, List.map_nil] at cnp
    obtain ⟨a1, ha1⟩ : ∃ x, x = Prd.mk 4 0 0 valZ false [Prd.still p, Prd.still q] := ⟨_, rfl⟩
    have sa1 : Sm a1 := by rw [ha1]; exact .mk (by simp [valZ, bz]) (by simp) (by intro y hy; simp only [List.mem_cons, List.not_mem_nil, or_false] at hy; first | (subst hy; exact Sm.still (by assumption)) | (rcases hy with rfl | rfl <;> exact Sm.still (by assumption)) | (rcases hy with rfl | rfl | rfl <;> exact Sm.still (by assumption)))
    have va1 : a1.pv = [.int .i64 4, .int .i64 0, .int .i64 0, .bool false, .int .i64 0, .int .i64 0, .nils, .sl 8 [(Prd.still p).pv, (Prd.still q).pv]] := by rw [ha1, pv_mk, pl_false]; rfl
    have ca1 := All_spec (l := [p, q]) false (by simp) (by intro y hy; simp only [List.mem_cons, List.not_mem_nil, or_false] at hy; first | (subst hy; assumption) | (rcases hy with rfl | rfl <;> assumption) | (rcases hy with rfl | rfl | rfl <;> assumption))
    rw [pl_false] at ca1
    simp only [List.map_cons, List.map_nil, vp, vq] at ca1
    obtain ⟨o2, ho2⟩ : ∃ x, x = Prd.mk 5 0 0 valZ false [Prd.still p, Prd.still q] := ⟨_, rfl⟩
    have so2 : Sm o2 := by rw [ho2]; exact .mk (by simp [valZ, bz]) (by simp) (by intro y hy; simp only [List.mem_cons, List.not_mem_nil, or_false] at hy; first | (subst hy; exact Sm.still (by assumption)) | (rcases hy with rfl | rfl <;> exact Sm.still (by assumption)) | (rcases hy with rfl | rfl | rfl <;> exact Sm.still (by assumption)))
    have vo2 : o2.pv = [.int .i64 5, .int .i64 0, .int .i64 0, .bool false, .int .i64 0, .int .i64 0, .nils, .sl 8 [(Prd.still p).pv, (Prd.still q).pv]] := by rw [ho2, pv_mk, pl_false]; rfl
    have co2 := Any_spec (l := [p, q]) false (by simp) (by intro y hy; simp only [List.mem_cons, List.not_mem_nil, or_false] at hy; first | (subst hy; assumption) | (rcases hy with rfl | rfl <;> assumption) | (rcases hy with rfl | rfl | rfl <;> assumption))
    rw [pl_false] at co2
    simp only [List.map_cons, List.map_nil, vp, vq] at co2
    obtain ⟨a5, ha5⟩ : ∃ x, x = Prd.mk 4 0 0 valZ false [Prd.still p, Prd.still q, Prd.still np] := ⟨_, rfl⟩
    have sa5 : Sm a5 := by rw [ha5]; exact .mk (by simp [valZ, bz]) (by simp) (by intro y hy; simp only [List.mem_cons, List.not_mem_nil, or_false] at hy; first | (subst hy; exact Sm.still (by assumption)) | (rcases hy with rfl | rfl <;> exact Sm.still (by assumption)) | (rcases hy with rfl | rfl | rfl <;> exact Sm.still (by assumption)))
    have va5 : a5.pv = [.int .i64 4, .int .i64 0, .int .i64 0, .bool false, .int .i64 0, .int .i64 0, .nils, .sl 8 [(Prd.still p).pv, (Prd.still q).pv, (Prd.still np).pv]] := by rw [ha5, pv_mk, pl_false]; rfl
    have ca5 := All_spec (l := [p, q, np]) false (by simp) (by intro y hy; simp only [List.mem_cons, List.not_mem_nil, or_false] at hy; first | (subst hy; assumption) | (rcases hy with rfl | rfl <;> assumption) | (rcases hy with rfl | rfl | rfl <;> assumption))
    rw [pl_false] at ca5
    simp only [List.map_cons, List.map_nil, vp, vq, vnp] at ca5
    have ep := e6_spec (row := rowN (schemaN n) row) (rowN_R1 _ _) sp
    rw [vp] at ep
    have eq := e6_spec (row := rowN (schemaN n) row) (rowN_R1 _ _) sq
    rw [vq] at eq
    have ea1 := e6_spec (row := rowN (schemaN n) row) (rowN_R1 _ _) sa1
    rw [va1] at ea1
    have eo2 := e6_spec (row := rowN (schemaN n) row) (rowN_R1 _ _) so2
    rw [vo2] at eo2
    have enp := e6_spec (row := rowN (schemaN n) row) (rowN_R1 _ _) snp
    rw [vnp] at enp
    have ea5 := e6_spec (row := rowN (schemaN n) row) (rowN_R1 _ _) sa5
    rw [va5] at ea5
    have k5 := eq_false (show ¬ a5.eval (rowN (schemaN n) row) = 1 by rw [ha5, w4, hnp, w1]; exact g4)
    by_cases px : p.eval (rowN (schemaN n) row) = 1 <;> by_cases qy : q.eval (rowN (schemaN n) row) = 1
    all_goals
      have k1 : (a1.eval (rowN (schemaN n) row) = 1) = (p.eval (rowN (schemaN n) row) = 1 ∧ q.eval (rowN (schemaN n) row) = 1) := by rw [ha1, w2]; exact propext g1
      have k2 : (o2.eval (rowN (schemaN n) row) = 1) = (p.eval (rowN (schemaN n) row) = 1 ∨ q.eval (rowN (schemaN n) row) = 1) := by rw [ho2, w3]; exact propext g2
      have k3 : (p.eval (rowN (schemaN n) row) = 1) → (np.eval (rowN (schemaN n) row) = 1) = False := fun h => eq_false (by rw [hnp, w1]; exact g3 h)
      simp only [px, qy, and_true, true_and, and_false, false_and, or_true, true_or, or_false, false_or, and_self, or_self] at k1 k2
      first | have px' := eq_false px | have px' := eq_true px
      first | have qy' := eq_false qy | have qy' := eq_true qy
      first | have k3 := k3 px | have k3 := True.intro
      clear g1 g2 g3 g4 w1 w2 w3 w4 px qy
      simp -implicitDefEqProofs (maxSteps := 4000000) (disch := omega) only [go_sem, ↓Nat.reduceBEq, ↓Nat.reduceEqDiff, ↓Nat.reduceLT, ↓Nat.reduceLeDiff, ↓Int.reduceEq, ↓Int.reduceLT, ↓Int.reduceLE, ↓reduceIte, reduceCtorEq, reduceDIte, Nat.reduceAdd, Nat.reduceMul, Nat.reduceSub, Nat.reduceBEq, Nat.reduceBNe, Nat.reduceBeqDiff, Nat.reduceLT, Nat.reduceLeDiff, Nat.reduceEqDiff, Nat.reduceDiv, Nat.reduceMod, Nat.reducePow, Int.reduceLT, Int.reduceLE, Int.reduceGT, Int.reduceGE, Int.reduceEq, Int.reduceNe, Int.reduceToNat, Int.reduceNeg, Int.reducePow, Int.reduceAdd, Int.reduceMul, Int.reduceSub, Int.reduceBEq, Int.reduceMod, Int.reduceDiv, Int.reduceNatCast, Nat.min_def, Int.add_sub_cancel, Int.add_zero, Nat.add_zero, Nat.zero_add, Int.zero_add, Int.natCast_add, Int.natCast_mul, List.length_append, List.length_take, List.length_drop, List.length_replicate, List.length_set, tdv, tmd, fdv, s64, u64, u8m, ilt_t, ilt_f, ile_t, ile_f, ieq_t, ieq_f, nlt_t, nlt_f, nle_t, nle_f, neq_t, neq_f, Int.toNat_natCast, still_shares, px', qy', k1, k2, k3, k5, Schema_spec, hP, hQ, hR, awake7, cnp, ca1, co2, ca5, ep, eq, ea1, eo2, enp, ea5]
      exact ⟨by ((repeat' split) <;> (change _ = true; kernel_rfl)), by ((repeat' split) <;> (change _ = true; kernel_rfl)), by ((repeat' split) <;> (change _ = true; kernel_rfl))⟩
  · have vp : p.pv = [.int .i64 p.kind, .int .i64 p.col, .int .i64 p.op, .bool p.val.null, .int .i64 p.val.kind, .int .i64 p.val.int, bl p.val.bytes, .nils] := by rw [pv_eq, hpn, hpl]; first | rfl | rw [pl_some]
    have vq : q.pv = [.int .i64 q.kind, .int .i64 q.col, .int .i64 q.op, .bool q.val.null, .int .i64 q.val.kind, .int .i64 q.val.int, bl q.val.bytes, .sl 8 (a'.pv :: r'.map Prd.pv)] := by rw [pv_eq, hqn, hql]; first | rfl | rw [pl_some]
    rw [hpl] at hP
    rw [hql] at hQ
    first | rw [plr_nil] at hP | rw [plr_cons] at hP
    first | rw [plr_nil] at hQ | rw [plr_cons] at hQ
    clear hpl hql hpn hqn
    obtain ⟨np, hnp⟩ : ∃ x, x = Prd.mk 6 0 0 valZ false [Prd.still p] := ⟨_, rfl⟩
    have snp : Sm np := by rw [hnp]; exact .mk (by simp [valZ, bz]) (by simp) (by intro y hy; simp only [List.mem_cons, List.not_mem_nil, or_false] at hy; first | (subst hy; exact Sm.still (by assumption)) | (rcases hy with rfl | rfl <;> exact Sm.still (by assumption)) | (rcases hy with rfl | rfl | rfl <;> exact Sm.still (by assumption)))
    have vnp : np.pv = [.int .i64 6, .int .i64 0, .int .i64 0, .bool false, .int .i64 0, .int .i64 0, .nils, .sl 8 [(Prd.still p).pv]] := by rw [hnp, pv_mk, pl_false]; rfl
    have cnp := Not_pv (p := p) sp
    rw [vp] at cnp
    simp only [List.map_cons, List.map_nil] at cnp
    obtain ⟨a1, ha1⟩ : ∃ x, x = Prd.mk 4 0 0 valZ false [Prd.still p, Prd.still q] := ⟨_, rfl⟩
    have sa1 : Sm a1 := by rw [ha1]; exact .mk (by simp [valZ, bz]) (by simp) (by intro y hy; simp only [List.mem_cons, List.not_mem_nil, or_false] at hy; first | (subst hy; exact Sm.still (by assumption)) | (rcases hy with rfl | rfl <;> exact Sm.still (by assumption)) | (rcases hy with rfl | rfl | rfl <;> exact Sm.still (by assumption)))
    have va1 : a1.pv = [.int .i64 4, .int .i64 0, .int .i64 0, .bool false, .int .i64 0, .int .i64 0, .nils, .sl 8 [(Prd.still p).pv, (Prd.still q).pv]] := by rw [ha1, pv_mk, pl_false]; rfl
    have ca1 := All_spec (l := [p, q]) false (by simp) (by intro y hy; simp only [List.mem_cons, List.not_mem_nil, or_false] at hy; first | (subst hy; assumption) | (rcases hy with rfl | rfl <;> assumption) | (rcases hy with rfl | rfl | rfl <;> assumption))
    rw [pl_false] at ca1
    simp only [List.map_cons, List.map_nil, vp, vq] at ca1
    obtain ⟨o2, ho2⟩ : ∃ x, x = Prd.mk 5 0 0 valZ false [Prd.still p, Prd.still q] := ⟨_, rfl⟩
    have so2 : Sm o2 := by rw [ho2]; exact .mk (by simp [valZ, bz]) (by simp) (by intro y hy; simp only [List.mem_cons, List.not_mem_nil, or_false] at hy; first | (subst hy; exact Sm.still (by assumption)) | (rcases hy with rfl | rfl <;> exact Sm.still (by assumption)) | (rcases hy with rfl | rfl | rfl <;> exact Sm.still (by assumption)))
    have vo2 : o2.pv = [.int .i64 5, .int .i64 0, .int .i64 0, .bool false, .int .i64 0, .int .i64 0, .nils, .sl 8 [(Prd.still p).pv, (Prd.still q).pv]] := by rw [ho2, pv_mk, pl_false]; rfl
    have co2 := Any_spec (l := [p, q]) false (by simp) (by intro y hy; simp only [List.mem_cons, List.not_mem_nil, or_false] at hy; first | (subst hy; assumption) | (rcases hy with rfl | rfl <;> assumption) | (rcases hy with rfl | rfl | rfl <;> assumption))
    rw [pl_false] at co2
    simp only [List.map_cons, List.map_nil, vp, vq] at co2
    obtain ⟨a5, ha5⟩ : ∃ x, x = Prd.mk 4 0 0 valZ false [Prd.still p, Prd.still q, Prd.still np] := ⟨_, rfl⟩
    have sa5 : Sm a5 := by rw [ha5]; exact .mk (by simp [valZ, bz]) (by simp) (by intro y hy; simp only [List.mem_cons, List.not_mem_nil, or_false] at hy; first | (subst hy; exact Sm.still (by assumption)) | (rcases hy with rfl | rfl <;> exact Sm.still (by assumption)) | (rcases hy with rfl | rfl | rfl <;> exact Sm.still (by assumption)))
    have va5 : a5.pv = [.int .i64 4, .int .i64 0, .int .i64 0, .bool false, .int .i64 0, .int .i64 0, .nils, .sl 8 [(Prd.still p).pv, (Prd.still q).pv, (Prd.still np).pv]] := by rw [ha5, pv_mk, pl_false]; rfl
    have ca5 := All_spec (l := [p, q, np]) false (by simp) (by intro y hy; simp only [List.mem_cons, List.not_mem_nil, or_false] at hy; first | (subst hy; assumption) | (rcases hy with rfl | rfl <;> assumption) | (rcases hy with rfl | rfl | rfl <;> assumption))
    rw [pl_false] at ca5
    simp only [List.map_cons, List.map_nil, vp, vq, vnp] at ca5
    have ep := e6_spec (row := rowN (schemaN n) row) (rowN_R1 _ _) sp
    rw [vp] at ep
    have eq := e6_spec (row := rowN (schemaN n) row) (rowN_R1 _ _) sq
    rw [vq] at eq
    have ea1 := e6_spec (row := rowN (schemaN n) row) (rowN_R1 _ _) sa1
    rw [va1] at ea1
    have eo2 := e6_spec (row := rowN (schemaN n) row) (rowN_R1 _ _) so2
    rw [vo2] at eo2
    have enp := e6_spec (row := rowN (schemaN n) row) (rowN_R1 _ _) snp
    rw [vnp] at enp
    have ea5 := e6_spec (row := rowN (schemaN n) row) (rowN_R1 _ _) sa5
    rw [va5] at ea5
    have k5 := eq_false (show ¬ a5.eval (rowN (schemaN n) row) = 1 by rw [ha5, w4, hnp, w1]; exact g4)
    by_cases px : p.eval (rowN (schemaN n) row) = 1 <;> by_cases qy : q.eval (rowN (schemaN n) row) = 1
    all_goals
      have k1 : (a1.eval (rowN (schemaN n) row) = 1) = (p.eval (rowN (schemaN n) row) = 1 ∧ q.eval (rowN (schemaN n) row) = 1) := by rw [ha1, w2]; exact propext g1
      have k2 : (o2.eval (rowN (schemaN n) row) = 1) = (p.eval (rowN (schemaN n) row) = 1 ∨ q.eval (rowN (schemaN n) row) = 1) := by rw [ho2, w3]; exact propext g2
      have k3 : (p.eval (rowN (schemaN n) row) = 1) → (np.eval (rowN (schemaN n) row) = 1) = False := fun h => eq_false (by rw [hnp, w1]; exact g3 h)
      simp only [px, qy, and_true, true_and, and_false, false_and, or_true, true_or, or_false, false_or, and_self, or_self] at k1 k2
      first | have px' := eq_false px | have px' := eq_true px
      first | have qy' := eq_false qy | have qy' := eq_true qy
      first | have k3 := k3 px | have k3 := True.intro
      clear g1 g2 g3 g4 w1 w2 w3 w4 px qy
      simp -implicitDefEqProofs (maxSteps := 4000000) (disch := omega) only [go_sem, ↓Nat.reduceBEq, ↓Nat.reduceEqDiff, ↓Nat.reduceLT, ↓Nat.reduceLeDiff, ↓Int.reduceEq, ↓Int.reduceLT, ↓Int.reduceLE, ↓reduceIte, reduceCtorEq, reduceDIte, Nat.reduceAdd, Nat.reduceMul, Nat.reduceSub, Nat.reduceBEq, Nat.reduceBNe, Nat.reduceBeqDiff, Nat.reduceLT, Nat.reduceLeDiff, Nat.reduceEqDiff, Nat.reduceDiv, Nat.reduceMod, Nat.reducePow, Int.reduceLT, Int.reduceLE, Int.reduceGT, Int.reduceGE, Int.reduceEq, Int.reduceNe, Int.reduceToNat, Int.reduceNeg, Int.reducePow, Int.reduceAdd, Int.reduceMul, Int.reduceSub, Int.reduceBEq, Int.reduceMod, Int.reduceDiv, Int.reduceNatCast, Nat.min_def, Int.add_sub_cancel, Int.add_zero, Nat.add_zero, Nat.zero_add, Int.zero_add, Int.natCast_add, Int.natCast_mul, List.length_append, List.length_take, List.length_drop, List.length_replicate, List.length_set, tdv, tmd, fdv, s64, u64, u8m, ilt_t, ilt_f, ile_t, ile_f, ieq_t, ieq_f, nlt_t, nlt_f, nle_t, nle_f, neq_t, neq_f, Int.toNat_natCast, still_shares, px', qy', k1, k2, k3, k5, Schema_spec, hP, hQ, hR, awake7, cnp, ca1, co2, ca5, ep, eq, ea1, eo2, enp, ea5]
      exact ⟨by ((repeat' split) <;> (change _ = true; kernel_rfl)), by ((repeat' split) <;> (change _ = true; kernel_rfl)), by ((repeat' split) <;> (change _ = true; kernel_rfl))⟩
  · have vp : p.pv = [.int .i64 p.kind, .int .i64 p.col, .int .i64 p.op, .bool p.val.null, .int .i64 p.val.kind, .int .i64 p.val.int, bl p.val.bytes, .sl 8 (a.pv :: r.map Prd.pv)] := by rw [pv_eq, hpn, hpl]; first | rfl | rw [pl_some]
    have vq : q.pv = [.int .i64 q.kind, .int .i64 q.col, .int .i64 q.op, .bool q.val.null, .int .i64 q.val.kind, .int .i64 q.val.int, bl q.val.bytes, .nils] := by rw [pv_eq, hqn, hql]; first | rfl | rw [pl_some]
    rw [hpl] at hP
    rw [hql] at hQ
    first | rw [plr_nil] at hP | rw [plr_cons] at hP
    first | rw [plr_nil] at hQ | rw [plr_cons] at hQ
    clear hpl hql hpn hqn
    obtain ⟨np, hnp⟩ : ∃ x, x = Prd.mk 6 0 0 valZ false [Prd.still p] := ⟨_, rfl⟩
    have snp : Sm np := by rw [hnp]; exact .mk (by simp [valZ, bz]) (by simp) (by intro y hy; simp only [List.mem_cons, List.not_mem_nil, or_false] at hy; first | (subst hy; exact Sm.still (by assumption)) | (rcases hy with rfl | rfl <;> exact Sm.still (by assumption)) | (rcases hy with rfl | rfl | rfl <;> exact Sm.still (by assumption)))
    have vnp : np.pv = [.int .i64 6, .int .i64 0, .int .i64 0, .bool false, .int .i64 0, .int .i64 0, .nils, .sl 8 [(Prd.still p).pv]] := by rw [hnp, pv_mk, pl_false]; rfl
    have cnp := Not_pv (p := p) sp
    rw [vp] at cnp
    simp only [List.map_cons, List.map_nil] at cnp
    obtain ⟨a1, ha1⟩ : ∃ x, x = Prd.mk 4 0 0 valZ false [Prd.still p, Prd.still q] := ⟨_, rfl⟩
    have sa1 : Sm a1 := by rw [ha1]; exact .mk (by simp [valZ, bz]) (by simp) (by intro y hy; simp only [List.mem_cons, List.not_mem_nil, or_false] at hy; first | (subst hy; exact Sm.still (by assumption)) | (rcases hy with rfl | rfl <;> exact Sm.still (by assumption)) | (rcases hy with rfl | rfl | rfl <;> exact Sm.still (by assumption)))
    have va1 : a1.pv = [.int .i64 4, .int .i64 0, .int .i64 0, .bool false, .int .i64 0, .int .i64 0, .nils, .sl 8 [(Prd.still p).pv, (Prd.still q).pv]] := by rw [ha1, pv_mk, pl_false]; rfl
    have ca1 := All_spec (l := [p, q]) false (by simp) (by intro y hy; simp only [List.mem_cons, List.not_mem_nil, or_false] at hy; first | (subst hy; assumption) | (rcases hy with rfl | rfl <;> assumption) | (rcases hy with rfl | rfl | rfl <;> assumption))
    rw [pl_false] at ca1
    simp only [List.map_cons, List.map_nil, vp, vq] at ca1
    obtain ⟨o2, ho2⟩ : ∃ x, x = Prd.mk 5 0 0 valZ false [Prd.still p, Prd.still q] := ⟨_, rfl⟩
    have so2 : Sm o2 := by rw [ho2]; exact .mk (by simp [valZ, bz]) (by simp) (by intro y hy; simp only [List.mem_cons, List.not_mem_nil, or_false] at hy; first | (subst hy; exact Sm.still (by assumption)) | (rcases hy with rfl | rfl <;> exact Sm.still (by assumption)) | (rcases hy with rfl | rfl | rfl <;> exact Sm.still (by assumption)))
    have vo2 : o2.pv = [.int .i64 5, .int .i64 0, .int .i64 0, .bool false, .int .i64 0, .int .i64 0, .nils, .sl 8 [(Prd.still p).pv, (Prd.still q).pv]] := by rw [ho2, pv_mk, pl_false]; rfl
    have co2 := Any_spec (l := [p, q]) false (by simp) (by intro y hy; simp only [List.mem_cons, List.not_mem_nil, or_false] at hy; first | (subst hy; assumption) | (rcases hy with rfl | rfl <;> assumption) | (rcases hy with rfl | rfl | rfl <;> assumption))
    rw [pl_false] at co2
    simp only [List.map_cons, List.map_nil, vp, vq] at co2
    obtain ⟨a5, ha5⟩ : ∃ x, x = Prd.mk 4 0 0 valZ false [Prd.still p, Prd.still q, Prd.still np] := ⟨_, rfl⟩
    have sa5 : Sm a5 := by rw [ha5]; exact .mk (by simp [valZ, bz]) (by simp) (by intro y hy; simp only [List.mem_cons, List.not_mem_nil, or_false] at hy; first | (subst hy; exact Sm.still (by assumption)) | (rcases hy with rfl | rfl <;> exact Sm.still (by assumption)) | (rcases hy with rfl | rfl | rfl <;> exact Sm.still (by assumption)))
    have va5 : a5.pv = [.int .i64 4, .int .i64 0, .int .i64 0, .bool false, .int .i64 0, .int .i64 0, .nils, .sl 8 [(Prd.still p).pv, (Prd.still q).pv, (Prd.still np).pv]] := by rw [ha5, pv_mk, pl_false]; rfl
    have ca5 := All_spec (l := [p, q, np]) false (by simp) (by intro y hy; simp only [List.mem_cons, List.not_mem_nil, or_false] at hy; first | (subst hy; assumption) | (rcases hy with rfl | rfl <;> assumption) | (rcases hy with rfl | rfl | rfl <;> assumption))
    rw [pl_false] at ca5
    simp only [List.map_cons, List.map_nil, vp, vq, vnp] at ca5
    have ep := e6_spec (row := rowN (schemaN n) row) (rowN_R1 _ _) sp
    rw [vp] at ep
    have eq := e6_spec (row := rowN (schemaN n) row) (rowN_R1 _ _) sq
    rw [vq] at eq
    have ea1 := e6_spec (row := rowN (schemaN n) row) (rowN_R1 _ _) sa1
    rw [va1] at ea1
    have eo2 := e6_spec (row := rowN (schemaN n) row) (rowN_R1 _ _) so2
    rw [vo2] at eo2
    have enp := e6_spec (row := rowN (schemaN n) row) (rowN_R1 _ _) snp
    rw [vnp] at enp
    have ea5 := e6_spec (row := rowN (schemaN n) row) (rowN_R1 _ _) sa5
    rw [va5] at ea5
    have k5 := eq_false (show ¬ a5.eval (rowN (schemaN n) row) = 1 by rw [ha5, w4, hnp, w1]; exact g4)
    by_cases px : p.eval (rowN (schemaN n) row) = 1 <;> by_cases qy : q.eval (rowN (schemaN n) row) = 1
    all_goals
      have k1 : (a1.eval (rowN (schemaN n) row) = 1) = (p.eval (rowN (schemaN n) row) = 1 ∧ q.eval (rowN (schemaN n) row) = 1) := by rw [ha1, w2]; exact propext g1
      have k2 : (o2.eval (rowN (schemaN n) row) = 1) = (p.eval (rowN (schemaN n) row) = 1 ∨ q.eval (rowN (schemaN n) row) = 1) := by rw [ho2, w3]; exact propext g2
      have k3 : (p.eval (rowN (schemaN n) row) = 1) → (np.eval (rowN (schemaN n) row) = 1) = False := fun h => eq_false (by rw [hnp, w1]; exact g3 h)
      simp only [px, qy, and_true, true_and, and_false, false_and, or_true, true_or, or_false, false_or, and_self, or_self] at k1 k2
      first | have px' := eq_false px | have px' := eq_true px
      first | have qy' := eq_false qy | have qy' := eq_true qy
      first | have k3 := k3 px | have k3 := True.intro
      clear g1 g2 g3 g4 w1 w2 w3 w4 px qy
      simp -implicitDefEqProofs (maxSteps := 4000000) (disch := omega) only [go_sem, ↓Nat.reduceBEq, ↓Nat.reduceEqDiff, ↓Nat.reduceLT, ↓Nat.reduceLeDiff, ↓Int.reduceEq, ↓Int.reduceLT, ↓Int.reduceLE, ↓reduceIte, reduceCtorEq, reduceDIte, Nat.reduceAdd, Nat.reduceMul, Nat.reduceSub, Nat.reduceBEq, Nat.reduceBNe, Nat.reduceBeqDiff, Nat.reduceLT, Nat.reduceLeDiff, Nat.reduceEqDiff, Nat.reduceDiv, Nat.reduceMod, Nat.reducePow, Int.reduceLT, Int.reduceLE, Int.reduceGT, Int.reduceGE, Int.reduceEq, Int.reduceNe, Int.reduceToNat, Int.reduceNeg, Int.reducePow, Int.reduceAdd, Int.reduceMul, Int.reduceSub, Int.reduceBEq, Int.reduceMod, Int.reduceDiv, Int.reduceNatCast, Nat.min_def, Int.add_sub_cancel, Int.add_zero, Nat.add_zero, Nat.zero_add, Int.zero_add, Int.natCast_add, Int.natCast_mul, List.length_append, List.length_take, List.length_drop, List.length_replicate, List.length_set, tdv, tmd, fdv, s64, u64, u8m, ilt_t, ilt_f, ile_t, ile_f, ieq_t, ieq_f, nlt_t, nlt_f, nle_t, nle_f, neq_t, neq_f, Int.toNat_natCast, still_shares, px', qy', k1, k2, k3, k5, Schema_spec, hP, hQ, hR, awake7, cnp, ca1, co2, ca5, ep, eq, ea1, eo2, enp, ea5]
      exact ⟨by ((repeat' split) <;> (change _ = true; kernel_rfl)), by ((repeat' split) <;> (change _ = true; kernel_rfl)), by ((repeat' split) <;> (change _ = true; kernel_rfl))⟩
  · have vp : p.pv = [.int .i64 p.kind, .int .i64 p.col, .int .i64 p.op, .bool p.val.null, .int .i64 p.val.kind, .int .i64 p.val.int, bl p.val.bytes, .sl 8 (a.pv :: r.map Prd.pv)] := by rw [pv_eq, hpn, hpl]; first | rfl | rw [pl_some]
    have vq : q.pv = [.int .i64 q.kind, .int .i64 q.col, .int .i64 q.op, .bool q.val.null, .int .i64 q.val.kind, .int .i64 q.val.int, bl q.val.bytes, .sl 8 (a'.pv :: r'.map Prd.pv)] := by rw [pv_eq, hqn, hql]; first | rfl | rw [pl_some]
    rw [hpl] at hP
    rw [hql] at hQ
    first | rw [plr_nil] at hP | rw [plr_cons] at hP
    first | rw [plr_nil] at hQ | rw [plr_cons] at hQ
    clear hpl hql hpn hqn
    obtain ⟨np, hnp⟩ : ∃ x, x = Prd.mk 6 0 0 valZ false [Prd.still p] := ⟨_, rfl⟩
    have snp : Sm np := by rw [hnp]; exact .mk (by simp [valZ, bz]) (by simp) (by intro y hy; simp only [List.mem_cons, List.not_mem_nil, or_false] at hy; first | (subst hy; exact Sm.still (by assumption)) | (rcases hy with rfl | rfl <;> exact Sm.still (by assumption)) | (rcases hy with rfl | rfl | rfl <;> exact Sm.still (by assumption)))
    have vnp : np.pv = [.int .i64 6, .int .i64 0, .int .i64 0, .bool false, .int .i64 0, .int .i64 0, .nils, .sl 8 [(Prd.still p).pv]] := by rw [hnp, pv_mk, pl_false]; rfl
    have cnp := Not_pv (p := p) sp
    rw [vp] at cnp
    simp only [List.map_cons, List.map_nil] at cnp
    obtain ⟨a1, ha1⟩ : ∃ x, x = Prd.mk 4 0 0 valZ false [Prd.still p, Prd.still q] := ⟨_, rfl⟩
    have sa1 : Sm a1 := by rw [ha1]; exact .mk (by simp [valZ, bz]) (by simp) (by intro y hy; simp only [List.mem_cons, List.not_mem_nil, or_false] at hy; first | (subst hy; exact Sm.still (by assumption)) | (rcases hy with rfl | rfl <;> exact Sm.still (by assumption)) | (rcases hy with rfl | rfl | rfl <;> exact Sm.still (by assumption)))
    have va1 : a1.pv = [.int .i64 4, .int .i64 0, .int .i64 0, .bool false, .int .i64 0, .int .i64 0, .nils, .sl 8 [(Prd.still p).pv, (Prd.still q).pv]] := by rw [ha1, pv_mk, pl_false]; rfl
    have ca1 := All_spec (l := [p, q]) false (by simp) (by intro y hy; simp only [List.mem_cons, List.not_mem_nil, or_false] at hy; first | (subst hy; assumption) | (rcases hy with rfl | rfl <;> assumption) | (rcases hy with rfl | rfl | rfl <;> assumption))
    rw [pl_false] at ca1
    simp only [List.map_cons, List.map_nil, vp, vq] at ca1
    obtain ⟨o2, ho2⟩ : ∃ x, x = Prd.mk 5 0 0 valZ false [Prd.still p, Prd.still q] := ⟨_, rfl⟩
    have so2 : Sm o2 := by rw [ho2]; exact .mk (by simp [valZ, bz]) (by simp) (by intro y hy; simp only [List.mem_cons, List.not_mem_nil, or_false] at hy; first | (subst hy; exact Sm.still (by assumption)) | (rcases hy with rfl | rfl <;> exact Sm.still (by assumption)) | (rcases hy with rfl | rfl | rfl <;> exact Sm.still (by assumption)))
    have vo2 : o2.pv = [.int .i64 5, .int .i64 0, .int .i64 0, .bool false, .int .i64 0, .int .i64 0, .nils, .sl 8 [(Prd.still p).pv, (Prd.still q).pv]] := by rw [ho2, pv_mk, pl_false]; rfl
    have co2 := Any_spec (l := [p, q]) false (by simp) (by intro y hy; simp only [List.mem_cons, List.not_mem_nil, or_false] at hy; first | (subst hy; assumption) | (rcases hy with rfl | rfl <;> assumption) | (rcases hy with rfl | rfl | rfl <;> assumption))
    rw [pl_false] at co2
    simp only [List.map_cons, List.map_nil, vp, vq] at co2
    obtain ⟨a5, ha5⟩ : ∃ x, x = Prd.mk 4 0 0 valZ false [Prd.still p, Prd.still q, Prd.still np] := ⟨_, rfl⟩
    have sa5 : Sm a5 := by rw [ha5]; exact .mk (by simp [valZ, bz]) (by simp) (by intro y hy; simp only [List.mem_cons, List.not_mem_nil, or_false] at hy; first | (subst hy; exact Sm.still (by assumption)) | (rcases hy with rfl | rfl <;> exact Sm.still (by assumption)) | (rcases hy with rfl | rfl | rfl <;> exact Sm.still (by assumption)))
    have va5 : a5.pv = [.int .i64 4, .int .i64 0, .int .i64 0, .bool false, .int .i64 0, .int .i64 0, .nils, .sl 8 [(Prd.still p).pv, (Prd.still q).pv, (Prd.still np).pv]] := by rw [ha5, pv_mk, pl_false]; rfl
    have ca5 := All_spec (l := [p, q, np]) false (by simp) (by intro y hy; simp only [List.mem_cons, List.not_mem_nil, or_false] at hy; first | (subst hy; assumption) | (rcases hy with rfl | rfl <;> assumption) | (rcases hy with rfl | rfl | rfl <;> assumption))
    rw [pl_false] at ca5
    simp only [List.map_cons, List.map_nil, vp, vq, vnp] at ca5
    have ep := e6_spec (row := rowN (schemaN n) row) (rowN_R1 _ _) sp
    rw [vp] at ep
    have eq := e6_spec (row := rowN (schemaN n) row) (rowN_R1 _ _) sq
    rw [vq] at eq
    have ea1 := e6_spec (row := rowN (schemaN n) row) (rowN_R1 _ _) sa1
    rw [va1] at ea1
    have eo2 := e6_spec (row := rowN (schemaN n) row) (rowN_R1 _ _) so2
    rw [vo2] at eo2
    have enp := e6_spec (row := rowN (schemaN n) row) (rowN_R1 _ _) snp
    rw [vnp] at enp
    have ea5 := e6_spec (row := rowN (schemaN n) row) (rowN_R1 _ _) sa5
    rw [va5] at ea5
    have k5 := eq_false (show ¬ a5.eval (rowN (schemaN n) row) = 1 by rw [ha5, w4, hnp, w1]; exact g4)
    by_cases px : p.eval (rowN (schemaN n) row) = 1 <;> by_cases qy : q.eval (rowN (schemaN n) row) = 1
    all_goals
      have k1 : (a1.eval (rowN (schemaN n) row) = 1) = (p.eval (rowN (schemaN n) row) = 1 ∧ q.eval (rowN (schemaN n) row) = 1) := by rw [ha1, w2]; exact propext g1
      have k2 : (o2.eval (rowN (schemaN n) row) = 1) = (p.eval (rowN (schemaN n) row) = 1 ∨ q.eval (rowN (schemaN n) row) = 1) := by rw [ho2, w3]; exact propext g2
      have k3 : (p.eval (rowN (schemaN n) row) = 1) → (np.eval (rowN (schemaN n) row) = 1) = False := fun h => eq_false (by rw [hnp, w1]; exact g3 h)
      simp only [px, qy, and_true, true_and, and_false, false_and, or_true, true_or, or_false, false_or, and_self, or_self] at k1 k2
      first | have px' := eq_false px | have px' := eq_true px
      first | have qy' := eq_false qy | have qy' := eq_true qy
      first | have k3 := k3 px | have k3 := True.intro
      clear g1 g2 g3 g4 w1 w2 w3 w4 px qy
      simp -implicitDefEqProofs (maxSteps := 4000000) (disch := omega) only [go_sem, ↓Nat.reduceBEq, ↓Nat.reduceEqDiff, ↓Nat.reduceLT, ↓Nat.reduceLeDiff, ↓Int.reduceEq, ↓Int.reduceLT, ↓Int.reduceLE, ↓reduceIte, reduceCtorEq, reduceDIte, Nat.reduceAdd, Nat.reduceMul, Nat.reduceSub, Nat.reduceBEq, Nat.reduceBNe, Nat.reduceBeqDiff, Nat.reduceLT, Nat.reduceLeDiff, Nat.reduceEqDiff, Nat.reduceDiv, Nat.reduceMod, Nat.reducePow, Int.reduceLT, Int.reduceLE, Int.reduceGT, Int.reduceGE, Int.reduceEq, Int.reduceNe, Int.reduceToNat, Int.reduceNeg, Int.reducePow, Int.reduceAdd, Int.reduceMul, Int.reduceSub, Int.reduceBEq, Int.reduceMod, Int.reduceDiv, Int.reduceNatCast, Nat.min_def, Int.add_sub_cancel, Int.add_zero, Nat.add_zero, Nat.zero_add, Int.zero_add, Int.natCast_add, Int.natCast_mul, List.length_append, List.length_take, List.length_drop, List.length_replicate, List.length_set, tdv, tmd, fdv, s64, u64, u8m, ilt_t, ilt_f, ile_t, ile_f, ieq_t, ieq_f, nlt_t, nlt_f, nle_t, nle_f, neq_t, neq_f, Int.toNat_natCast, still_shares, px', qy', k1, k2, k3, k5, Schema_spec, hP, hQ, hR, awake7, cnp, ca1, co2, ca5, ep, eq, ea1, eo2, enp, ea5]
      exact ⟨by ((repeat' split) <;> (change _ = true; kernel_rfl)), by ((repeat' split) <;> (change _ = true; kernel_rfl)), by ((repeat' split) <;> (change _ = true; kernel_rfl))⟩
end Go.Proofs.Ytgnjnkmjcahkeaa.D
