/- PredLaws: what the law comes to. -/
import Derived.Test.YtgnjnkmjcahkeaaPredGen
namespace Go.Proofs.Ytgnjnkmjcahkeaa.D
open Go Go.Den
set_option linter.unusedSimpArgs false
set_option linter.unusedVariables false
set_option maxRecDepth 20000
set_option maxHeartbeats 8000000
theorem Sm.still {p : Prd} (h : Sm p) : Sm p.still := by
  induction p using Prd.ind with
  | h k c o v n l ih =>
    obtain ⟨hb, hl, hq⟩ := h
    rw [still_mk]
    refine .mk (by simpa [bz] using hb) (by simpa using hl) fun q hm => ?_
    obtain ⟨r, hr, rfl⟩ := List.mem_map.1 hm
    exact ih r hr (hq r hr)
theorem Not_pv {p : Prd} (hp : Sm p) : dw E 17 [.agg p.pv] [] = some (.agg [.int .i64 6, .int .i64 0, .int .i64 0, .bool false, .int .i64 0, .int .i64 0, .nils, .nr 28 8 ([p.still].map Prd.pv)], []) := by
  rw [pv_eq]; exact Not_spec hp
theorem e7_spec {row : List Val} (hr : R1 row) {p : Prd} (hp : Sm p) : dw E 27 [.agg p.pv, .pb 16777216 0] [[.sl 4 (row.map Val.pv)]] = some (.int .i64 (p.eval row), [[.sl 4 (row.map Val.pv)]]) := by
  rw [pv_eq]
  refine dw_in (fn := Try.f27) rfl rfl (by simp) ?_
  simp -implicitDefEqProofs (maxSteps := 4000000) (disch := omega) only [go_sem, ↓Nat.reduceBEq, ↓Nat.reduceEqDiff, ↓Nat.reduceLT, ↓Nat.reduceLeDiff, ↓Int.reduceEq, ↓Int.reduceLT, ↓Int.reduceLE, ↓reduceIte, reduceCtorEq, reduceDIte, Nat.reduceAdd, Nat.reduceMul, Nat.reduceSub, Nat.reduceBEq, Nat.reduceBNe, Nat.reduceBeqDiff, Nat.reduceLT, Nat.reduceLeDiff, Nat.reduceEqDiff, Nat.reduceDiv, Nat.reduceMod, Nat.reducePow, Int.reduceLT, Int.reduceLE, Int.reduceGT, Int.reduceGE, Int.reduceEq, Int.reduceNe, Int.reduceToNat, Int.reduceNeg, Int.reducePow, Int.reduceAdd, Int.reduceMul, Int.reduceSub, Int.reduceBEq, Int.reduceMod, Int.reduceDiv, Int.reduceNatCast, Nat.min_def, Int.add_sub_cancel, Int.add_zero, Nat.add_zero, Nat.zero_add, Int.zero_add, Int.natCast_add, Int.natCast_mul, List.length_append, List.length_take, List.length_drop, List.length_replicate, List.length_set, tdv, tmd, fdv, s64, u64, u8m, ilt_t, ilt_f, ile_t, ile_f, ieq_t, ieq_f, nlt_t, nlt_f, nle_t, nle_f, neq_t, neq_f, Int.toNat_natCast, Eval_spec hr hp]
theorem e6_spec {row : List Val} (hr : R1 row) {p : Prd} (hp : Sm p) : dw E 26 [.agg p.pv, .pb 16777216 0] [[.sl 4 (row.map Val.pv)]] = some (.bool (decide (p.eval row = 1)), [[.sl 4 (row.map Val.pv)]]) := by
  rw [pv_eq]
  refine dw_in (fn := Try.f26) rfl rfl (by simp) ?_
  simp -implicitDefEqProofs (maxSteps := 4000000) only [go_sem, ↓reduceIte, reduceCtorEq, reduceDIte, Nat.reduceAdd, Nat.reduceMul, Nat.reduceSub, Nat.reduceBEq, Nat.reduceBNe, Nat.reduceBeqDiff, Nat.reduceLT, Nat.reduceLeDiff, Nat.reduceEqDiff, Nat.reduceDiv, Nat.reduceMod, Nat.reducePow, Int.reduceLT, Int.reduceLE, Int.reduceGT, Int.reduceGE, Int.reduceEq, Int.reduceNe, Int.reduceToNat, Int.reduceNeg, Int.reducePow, Int.reduceAdd, Int.reduceMul, Int.reduceSub, Int.reduceBEq, Int.reduceMod, Int.reduceDiv, Int.reduceNatCast, Nat.min_def, Eval_spec hr hp]
theorem awake7 : dw E 19 [] [] = some (.bool true, []) := dw_of (k := 200) (by kernel_rfl)
theorem ev_not {row : List Val} {p : Prd} : (Prd.mk 6 0 0 valZ false [p.still]).eval row = notI (p.eval row) := by rw [eval_mk]; simp [eval_still]
theorem ev_all {row : List Val} {l : List Prd} : (Prd.mk 4 0 0 valZ false (l.map Prd.still)).eval row = listI 2 1 (l.map (Prd.eval row)) := by
  rw [eval_mk, if_neg (by decide), if_neg (by decide), if_neg (by decide), if_pos rfl, List.map_map]; congr 1; exact List.map_congr_left fun q _ => eval_still row q
theorem ev_any {row : List Val} {l : List Prd} : (Prd.mk 5 0 0 valZ false (l.map Prd.still)).eval row = listI 1 2 (l.map (Prd.eval row)) := by
  rw [eval_mk, if_neg (by decide), if_neg (by decide), if_neg (by decide), if_neg (by decide), if_pos rfl, List.map_map]; congr 1; exact List.map_congr_left fun q _ => eval_still row q
theorem still_shares (p : Prd) : p.still.pv.any sharesP = true := by
  rw [still_pv]; simp [sharesP]
theorem pure_laws (x y : Int) (hx : 1 ≤ x ∧ x ≤ 3) (hy : 1 ≤ y ∧ y ≤ 3) : notI (notI x) = x ∧ notI (listI 2 1 [x, y]) = listI 1 2 [notI x, notI y] ∧ notI (listI 1 2 [x, y]) = listI 2 1 [notI x, notI y] ∧ listI 2 1 [x] = x ∧ listI 2 1 [x, y] = listI 2 1 [y, x] ∧ listI 1 2 [x, y] = listI 1 2 [y, x] ∧ listI 2 1 [x, listI 1 2 [x, y]] = x := by
  rcases (show x = 1 ∨ x = 2 ∨ x = 3 by omega) with rfl | rfl | rfl <;> rcases (show y = 1 ∨ y = 2 ∨ y = 3 by omega) with rfl | rfl | rfl <;> decide
theorem PredLaws_spec {n row : Int} {a b : List Int} : dw E 7 [.int .i64 n, .sl 1 (ints .i64 a), .sl 1 (ints .i64 b), .int .i64 row] [] = some (.bool true, []) := by
  refine dw_in (fn := Try.f7) rfl body7 (by simp) ?_
  have hs : 1 ≤ (schemaN n).length ∧ (schemaN n).length ≤ 20 := ⟨schemaN_pos n, by have := schemaN_length n; omega⟩
  have hP := Pred_spec (s := schemaN n) (l := a) hs 3 0 (by decide) (by decide)
  have hQ := Pred_spec (s := schemaN n) (l := b) hs 3 0 (by decide) (by decide)
  have hR := Row_spec (s := schemaN n) (n := row) (by omega)
  have hpn := predN_nil (schemaN n) a 3 0
  have hqn := predN_nil (schemaN n) b 3 0
  have sp := predN_Sm (schemaN n) a 3 0
  have sq := predN_Sm (schemaN n) b 3 0
  simp only [cast0, cast3] at hP hQ
  generalize predN (schemaN n) a 3 0 = p at hP hpn sp
  generalize predN (schemaN n) b 3 0 = q at hQ hqn sq
  rcases hpl : p.list with _ | ⟨a, r⟩ <;> rcases hql : q.list with _ | ⟨a', r'⟩
  · have vp : p.pv = [.int .i64 p.kind, .int .i64 p.col, .int .i64 p.op, .bool p.val.null, .int .i64 p.val.kind, .int .i64 p.val.int, bl p.val.bytes, .nils] := by rw [pv_eq, hpn, hpl]; first | rfl | rw [pl_some]
    have vq : q.pv = [.int .i64 q.kind, .int .i64 q.col, .int .i64 q.op, .bool q.val.null, .int .i64 q.val.kind, .int .i64 q.val.int, bl q.val.bytes, .nils] := by rw [pv_eq, hqn, hql]; first | rfl | rw [pl_some]
    rw [hpl] at hP
    rw [hql] at hQ
    first | rw [plr_nil] at hP | rw [plr_cons] at hP
    first | rw [plr_nil] at hQ | rw [plr_cons] at hQ
    clear hpl hql hpn hqn
    obtain ⟨np, hnp⟩ : ∃ x, x = Prd.mk 6 0 0 valZ false [Prd.still p] := ⟨_, rfl⟩
    have snp : Sm np := by rw [hnp]; exact .mk (by simp [valZ, bz]) (by simp) (by intro y hy; simp only [List.mem_cons, List.not_mem_nil, or_false] at hy; first | (subst hy; exact Sm.still (by assumption)) | (rcases hy with rfl | rfl <;> exact Sm.still (by assumption)))
    have vnp : np.pv = [.int .i64 6, .int .i64 0, .int .i64 0, .bool false, .int .i64 0, .int .i64 0, .nils, .sl 8 [(Prd.still p).pv]] := by rw [hnp, pv_mk, pl_false]; rfl
    have cnp := Not_pv (p := p) sp
    rw [vp] at cnp
    simp only [List.map_cons, List.map_nil] at cnp
    obtain ⟨nnp, hnnp⟩ : ∃ x, x = Prd.mk 6 0 0 valZ false [Prd.still np] := ⟨_, rfl⟩
    have snnp : Sm nnp := by rw [hnnp]; exact .mk (by simp [valZ, bz]) (by simp) (by intro y hy; simp only [List.mem_cons, List.not_mem_nil, or_false] at hy; first | (subst hy; exact Sm.still (by assumption)) | (rcases hy with rfl | rfl <;> exact Sm.still (by assumption)))
    have vnnp : nnp.pv = [.int .i64 6, .int .i64 0, .int .i64 0, .bool false, .int .i64 0, .int .i64 0, .nils, .sl 8 [(Prd.still np).pv]] := by rw [hnnp, pv_mk, pl_false]; rfl
    have cnnp := Not_pv (p := np) snp
    rw [vnp] at cnnp
    simp only [List.map_cons, List.map_nil] at cnnp
    obtain ⟨a1, ha1⟩ : ∃ x, x = Prd.mk 4 0 0 valZ false [Prd.still p, Prd.still q] := ⟨_, rfl⟩
    have sa1 : Sm a1 := by rw [ha1]; exact .mk (by simp [valZ, bz]) (by simp) (by intro y hy; simp only [List.mem_cons, List.not_mem_nil, or_false] at hy; first | (subst hy; exact Sm.still (by assumption)) | (rcases hy with rfl | rfl <;> exact Sm.still (by assumption)))
    have va1 : a1.pv = [.int .i64 4, .int .i64 0, .int .i64 0, .bool false, .int .i64 0, .int .i64 0, .nils, .sl 8 [(Prd.still p).pv, (Prd.still q).pv]] := by rw [ha1, pv_mk, pl_false]; rfl
    have ca1 := All_spec (l := [p, q]) false (by simp) (by intro y hy; simp only [List.mem_cons, List.not_mem_nil, or_false] at hy; first | (subst hy; assumption) | (rcases hy with rfl | rfl <;> assumption))
    rw [pl_false] at ca1
    simp only [List.map_cons, List.map_nil, vp, vq] at ca1
    obtain ⟨na, hna⟩ : ∃ x, x = Prd.mk 6 0 0 valZ false [Prd.still a1] := ⟨_, rfl⟩
    have sna : Sm na := by rw [hna]; exact .mk (by simp [valZ, bz]) (by simp) (by intro y hy; simp only [List.mem_cons, List.not_mem_nil, or_false] at hy; first | (subst hy; exact Sm.still (by assumption)) | (rcases hy with rfl | rfl <;> exact Sm.still (by assumption)))
    have vna : na.pv = [.int .i64 6, .int .i64 0, .int .i64 0, .bool false, .int .i64 0, .int .i64 0, .nils, .sl 8 [(Prd.still a1).pv]] := by rw [hna, pv_mk, pl_false]; rfl
    have cna := Not_pv (p := a1) sa1
    rw [va1] at cna
    simp only [List.map_cons, List.map_nil] at cna
    obtain ⟨nq, hnq⟩ : ∃ x, x = Prd.mk 6 0 0 valZ false [Prd.still q] := ⟨_, rfl⟩
    have snq : Sm nq := by rw [hnq]; exact .mk (by simp [valZ, bz]) (by simp) (by intro y hy; simp only [List.mem_cons, List.not_mem_nil, or_false] at hy; first | (subst hy; exact Sm.still (by assumption)) | (rcases hy with rfl | rfl <;> exact Sm.still (by assumption)))
    have vnq : nq.pv = [.int .i64 6, .int .i64 0, .int .i64 0, .bool false, .int .i64 0, .int .i64 0, .nils, .sl 8 [(Prd.still q).pv]] := by rw [hnq, pv_mk, pl_false]; rfl
    have cnq := Not_pv (p := q) sq
    rw [vq] at cnq
    simp only [List.map_cons, List.map_nil] at cnq
    obtain ⟨o1, ho1⟩ : ∃ x, x = Prd.mk 5 0 0 valZ false [Prd.still np, Prd.still nq] := ⟨_, rfl⟩
    have so1 : Sm o1 := by rw [ho1]; exact .mk (by simp [valZ, bz]) (by simp) (by intro y hy; simp only [List.mem_cons, List.not_mem_nil, or_false] at hy; first | (subst hy; exact Sm.still (by assumption)) | (rcases hy with rfl | rfl <;> exact Sm.still (by assumption)))
    have vo1 : o1.pv = [.int .i64 5, .int .i64 0, .int .i64 0, .bool false, .int .i64 0, .int .i64 0, .nils, .sl 8 [(Prd.still np).pv, (Prd.still nq).pv]] := by rw [ho1, pv_mk, pl_false]; rfl
    have co1 := Any_spec (l := [np, nq]) false (by simp) (by intro y hy; simp only [List.mem_cons, List.not_mem_nil, or_false] at hy; first | (subst hy; assumption) | (rcases hy with rfl | rfl <;> assumption))
    rw [pl_false] at co1
    simp only [List.map_cons, List.map_nil, vnp, vnq] at co1
    obtain ⟨o2, ho2⟩ : ∃ x, x = Prd.mk 5 0 0 valZ false [Prd.still p, Prd.still q] := ⟨_, rfl⟩
    have so2 : Sm o2 := by rw [ho2]; exact .mk (by simp [valZ, bz]) (by simp) (by intro y hy; simp only [List.mem_cons, List.not_mem_nil, or_false] at hy; first | (subst hy; exact Sm.still (by assumption)) | (rcases hy with rfl | rfl <;> exact Sm.still (by assumption)))
    have vo2 : o2.pv = [.int .i64 5, .int .i64 0, .int .i64 0, .bool false, .int .i64 0, .int .i64 0, .nils, .sl 8 [(Prd.still p).pv, (Prd.still q).pv]] := by rw [ho2, pv_mk, pl_false]; rfl
    have co2 := Any_spec (l := [p, q]) false (by simp) (by intro y hy; simp only [List.mem_cons, List.not_mem_nil, or_false] at hy; first | (subst hy; assumption) | (rcases hy with rfl | rfl <;> assumption))
    rw [pl_false] at co2
    simp only [List.map_cons, List.map_nil, vp, vq] at co2
    obtain ⟨no, hno⟩ : ∃ x, x = Prd.mk 6 0 0 valZ false [Prd.still o2] := ⟨_, rfl⟩
    have sno : Sm no := by rw [hno]; exact .mk (by simp [valZ, bz]) (by simp) (by intro y hy; simp only [List.mem_cons, List.not_mem_nil, or_false] at hy; first | (subst hy; exact Sm.still (by assumption)) | (rcases hy with rfl | rfl <;> exact Sm.still (by assumption)))
    have vno : no.pv = [.int .i64 6, .int .i64 0, .int .i64 0, .bool false, .int .i64 0, .int .i64 0, .nils, .sl 8 [(Prd.still o2).pv]] := by rw [hno, pv_mk, pl_false]; rfl
    have cno := Not_pv (p := o2) so2
    rw [vo2] at cno
    simp only [List.map_cons, List.map_nil] at cno
    obtain ⟨a2, ha2⟩ : ∃ x, x = Prd.mk 4 0 0 valZ false [Prd.still np, Prd.still nq] := ⟨_, rfl⟩
    have sa2 : Sm a2 := by rw [ha2]; exact .mk (by simp [valZ, bz]) (by simp) (by intro y hy; simp only [List.mem_cons, List.not_mem_nil, or_false] at hy; first | (subst hy; exact Sm.still (by assumption)) | (rcases hy with rfl | rfl <;> exact Sm.still (by assumption)))
    have va2 : a2.pv = [.int .i64 4, .int .i64 0, .int .i64 0, .bool false, .int .i64 0, .int .i64 0, .nils, .sl 8 [(Prd.still np).pv, (Prd.still nq).pv]] := by rw [ha2, pv_mk, pl_false]; rfl
    have ca2 := All_spec (l := [np, nq]) false (by simp) (by intro y hy; simp only [List.mem_cons, List.not_mem_nil, or_false] at hy; first | (subst hy; assumption) | (rcases hy with rfl | rfl <;> assumption))
    rw [pl_false] at ca2
    simp only [List.map_cons, List.map_nil, vnp, vnq] at ca2
    obtain ⟨ap, hap⟩ : ∃ x, x = Prd.mk 4 0 0 valZ false [Prd.still p] := ⟨_, rfl⟩
    have sap : Sm ap := by rw [hap]; exact .mk (by simp [valZ, bz]) (by simp) (by intro y hy; simp only [List.mem_cons, List.not_mem_nil, or_false] at hy; first | (subst hy; exact Sm.still (by assumption)) | (rcases hy with rfl | rfl <;> exact Sm.still (by assumption)))
    have vap : ap.pv = [.int .i64 4, .int .i64 0, .int .i64 0, .bool false, .int .i64 0, .int .i64 0, .nils, .sl 8 [(Prd.still p).pv]] := by rw [hap, pv_mk, pl_false]; rfl
    have cap := All_spec (l := [p]) false (by simp) (by intro y hy; simp only [List.mem_cons, List.not_mem_nil, or_false] at hy; first | (subst hy; assumption) | (rcases hy with rfl | rfl <;> assumption))
    rw [pl_false] at cap
    simp only [List.map_cons, List.map_nil, vp] at cap
    obtain ⟨a3, ha3⟩ : ∃ x, x = Prd.mk 4 0 0 valZ false [Prd.still q, Prd.still p] := ⟨_, rfl⟩
    have sa3 : Sm a3 := by rw [ha3]; exact .mk (by simp [valZ, bz]) (by simp) (by intro y hy; simp only [List.mem_cons, List.not_mem_nil, or_false] at hy; first | (subst hy; exact Sm.still (by assumption)) | (rcases hy with rfl | rfl <;> exact Sm.still (by assumption)))
    have va3 : a3.pv = [.int .i64 4, .int .i64 0, .int .i64 0, .bool false, .int .i64 0, .int .i64 0, .nils, .sl 8 [(Prd.still q).pv, (Prd.still p).pv]] := by rw [ha3, pv_mk, pl_false]; rfl
    have ca3 := All_spec (l := [q, p]) false (by simp) (by intro y hy; simp only [List.mem_cons, List.not_mem_nil, or_false] at hy; first | (subst hy; assumption) | (rcases hy with rfl | rfl <;> assumption))
    rw [pl_false] at ca3
    simp only [List.map_cons, List.map_nil, vq, vp] at ca3
    obtain ⟨o3, ho3⟩ : ∃ x, x = Prd.mk 5 0 0 valZ false [Prd.still q, Prd.still p] := ⟨_, rfl⟩
    have so3 : Sm o3 := by rw [ho3]; exact .mk (by simp [valZ, bz]) (by simp) (by intro y hy; simp only [List.mem_cons, List.not_mem_nil, or_false] at hy; first | (subst hy; exact Sm.still (by assumption)) | (rcases hy with rfl | rfl <;> exact Sm.still (by assumption)))
    have vo3 : o3.pv = [.int .i64 5, .int .i64 0, .int .i64 0, .bool false, .int .i64 0, .int .i64 0, .nils, .sl 8 [(Prd.still q).pv, (Prd.still p).pv]] := by rw [ho3, pv_mk, pl_false]; rfl
    have co3 := Any_spec (l := [q, p]) false (by simp) (by intro y hy; simp only [List.mem_cons, List.not_mem_nil, or_false] at hy; first | (subst hy; assumption) | (rcases hy with rfl | rfl <;> assumption))
    rw [pl_false] at co3
    simp only [List.map_cons, List.map_nil, vq, vp] at co3
    obtain ⟨a4, ha4⟩ : ∃ x, x = Prd.mk 4 0 0 valZ false [Prd.still p, Prd.still o2] := ⟨_, rfl⟩
    have sa4 : Sm a4 := by rw [ha4]; exact .mk (by simp [valZ, bz]) (by simp) (by intro y hy; simp only [List.mem_cons, List.not_mem_nil, or_false] at hy; first | (subst hy; exact Sm.still (by assumption)) | (rcases hy with rfl | rfl <;> exact Sm.still (by assumption)))
    have va4 : a4.pv = [.int .i64 4, .int .i64 0, .int .i64 0, .bool false, .int .i64 0, .int .i64 0, .nils, .sl 8 [(Prd.still p).pv, (Prd.still o2).pv]] := by rw [ha4, pv_mk, pl_false]; rfl
    have ca4 := All_spec (l := [p, o2]) false (by simp) (by intro y hy; simp only [List.mem_cons, List.not_mem_nil, or_false] at hy; first | (subst hy; assumption) | (rcases hy with rfl | rfl <;> assumption))
    rw [pl_false] at ca4
    simp only [List.map_cons, List.map_nil, vp, vo2] at ca4
    have ep := e7_spec (row := rowN (schemaN n) row) (rowN_R1 _ _) sp
    rw [vp] at ep
    have ennp := e7_spec (row := rowN (schemaN n) row) (rowN_R1 _ _) snnp
    rw [vnnp] at ennp
    have ena := e7_spec (row := rowN (schemaN n) row) (rowN_R1 _ _) sna
    rw [vna] at ena
    have eo1 := e7_spec (row := rowN (schemaN n) row) (rowN_R1 _ _) so1
    rw [vo1] at eo1
    have eno := e7_spec (row := rowN (schemaN n) row) (rowN_R1 _ _) sno
    rw [vno] at eno
    have ea2 := e7_spec (row := rowN (schemaN n) row) (rowN_R1 _ _) sa2
    rw [va2] at ea2
    have eap := e7_spec (row := rowN (schemaN n) row) (rowN_R1 _ _) sap
    rw [vap] at eap
    have ea1 := e7_spec (row := rowN (schemaN n) row) (rowN_R1 _ _) sa1
    rw [va1] at ea1
    have ea3 := e7_spec (row := rowN (schemaN n) row) (rowN_R1 _ _) sa3
    rw [va3] at ea3
    have eo2 := e7_spec (row := rowN (schemaN n) row) (rowN_R1 _ _) so2
    rw [vo2] at eo2
    have eo3 := e7_spec (row := rowN (schemaN n) row) (rowN_R1 _ _) so3
    rw [vo3] at eo3
    have ea4 := e7_spec (row := rowN (schemaN n) row) (rowN_R1 _ _) sa4
    rw [va4] at ea4
    have w1 : ∀ (r : List Val) (x : Prd), (Prd.mk 6 0 0 valZ false [x.still]).eval r = notI (x.eval r) := fun r x => ev_not
    have w2 : ∀ (r : List Val) (x y : Prd), (Prd.mk 4 0 0 valZ false [x.still, y.still]).eval r = listI 2 1 [x.eval r, y.eval r] := fun r x y => ev_all (l := [x, y])
    have w3 : ∀ (r : List Val) (x y : Prd), (Prd.mk 5 0 0 valZ false [x.still, y.still]).eval r = listI 1 2 [x.eval r, y.eval r] := fun r x y => ev_any (l := [x, y])
    have w4 : ∀ (r : List Val) (x : Prd), (Prd.mk 4 0 0 valZ false [x.still]).eval r = listI 2 1 [x.eval r] := fun r x => ev_all (l := [x])
    obtain ⟨g1, g2, g3, g4, g5, g6, g7⟩ := pure_laws (p.eval (rowN (schemaN n) row)) (q.eval (rowN (schemaN n) row)) (eval_range _ _) (eval_range _ _)
    have k1 := eq_true (show nnp.eval (rowN (schemaN n) row) = p.eval (rowN (schemaN n) row) by rw [hnnp, w1, hnp, w1, g1])
    have k2 := eq_true (show na.eval (rowN (schemaN n) row) = o1.eval (rowN (schemaN n) row) by rw [hna, w1, ha1, w2, ho1, w3, hnp, hnq, w1, w1, g2])
    have k3 := eq_true (show no.eval (rowN (schemaN n) row) = a2.eval (rowN (schemaN n) row) by rw [hno, w1, ho2, w3, ha2, w2, hnp, hnq, w1, w1, g3])
    have k4 := eq_true (show ap.eval (rowN (schemaN n) row) = p.eval (rowN (schemaN n) row) by rw [hap, w4, g4])
    have k5 := eq_true (show a1.eval (rowN (schemaN n) row) = a3.eval (rowN (schemaN n) row) by rw [ha1, ha3, w2, w2, g5])
    have k6 := eq_true (show o2.eval (rowN (schemaN n) row) = o3.eval (rowN (schemaN n) row) by rw [ho2, ho3, w3, w3, g6])
    have k7 := eq_true (show a4.eval (rowN (schemaN n) row) = p.eval (rowN (schemaN n) row) by rw [ha4, w2, ho2, w3, g7])
    clear g1 g2 g3 g4 g5 g6 g7 w1 w2 w3 w4
    simp -implicitDefEqProofs (maxSteps := 4000000) (disch := omega) only [go_sem, ↓Nat.reduceBEq, ↓Nat.reduceEqDiff, ↓Nat.reduceLT, ↓Nat.reduceLeDiff, ↓Int.reduceEq, ↓Int.reduceLT, ↓Int.reduceLE, ↓reduceIte, reduceCtorEq, reduceDIte, Nat.reduceAdd, Nat.reduceMul, Nat.reduceSub, Nat.reduceBEq, Nat.reduceBNe, Nat.reduceBeqDiff, Nat.reduceLT, Nat.reduceLeDiff, Nat.reduceEqDiff, Nat.reduceDiv, Nat.reduceMod, Nat.reducePow, Int.reduceLT, Int.reduceLE, Int.reduceGT, Int.reduceGE, Int.reduceEq, Int.reduceNe, Int.reduceToNat, Int.reduceNeg, Int.reducePow, Int.reduceAdd, Int.reduceMul, Int.reduceSub, Int.reduceBEq, Int.reduceMod, Int.reduceDiv, Int.reduceNatCast, Nat.min_def, Int.add_sub_cancel, Int.add_zero, Nat.add_zero, Nat.zero_add, Int.zero_add, Int.natCast_add, Int.natCast_mul, List.length_append, List.length_take, List.length_drop, List.length_replicate, List.length_set, tdv, tmd, fdv, s64, u64, u8m, ilt_t, ilt_f, ile_t, ile_f, ieq_t, ieq_f, nlt_t, nlt_f, nle_t, nle_f, neq_t, neq_f, Int.toNat_natCast, still_shares, k1, k2, k3, k4, k5, k6, k7, Schema_spec, hP, hQ, hR, awake7, cnp, cnnp, ca1, cna, cnq, co1, co2, cno, ca2, cap, ca3, co3, ca4, ep, ennp, ena, eo1, eno, ea2, eap, ea1, ea3, eo2, eo3, ea4]
    exact ⟨by ((repeat' split) <;> (change _ = true; kernel_rfl)), by ((repeat' split) <;> (change _ = true; kernel_rfl))⟩
  · have vp : p.pv = [.int .i64 p.kind, .int .i64 p.col, .int .i64 p.op, .bool p.val.null, .int .i64 p.val.kind, .int .i64 p.val.int, bl p.val.bytes, .nils] := by rw [pv_eq, hpn, hpl]; first | rfl | rw [pl_some]
    have vq : q.pv = [.int .i64 q.kind, .int .i64 q.col, .int .i64 q.op, .bool q.val.null, .int .i64 q.val.kind, .int .i64 q.val.int, bl q.val.bytes, .sl 8 (a'.pv :: r'.map Prd.pv)] := by rw [pv_eq, hqn, hql]; first | rfl | rw [pl_some]
    rw [hpl] at hP
    rw [hql] at hQ
    first | rw [plr_nil] at hP | rw [plr_cons] at hP
    first | rw [plr_nil] at hQ | rw [plr_cons] at hQ
    clear hpl hql hpn hqn
    obtain ⟨np, hnp⟩ : ∃ x, x = Prd.mk 6 0 0 valZ false [Prd.still p] := ⟨_, rfl⟩
    have snp : Sm np := by rw [hnp]; exact .mk (by simp [valZ, bz]) (by simp) (by intro y hy; simp only [List.mem_cons, List.not_mem_nil, or_false] at hy; first | (subst hy; exact Sm.still (by assumption)) | (rcases hy with rfl | rfl <;> exact Sm.still (by assumption)))
    have vnp : np.pv = [.int .i64 6, .int .i64 0, .int .i64 0, .bool false, .int .i64 0, .int .i64 0, .nils, .sl 8 [(Prd.still p).pv]] := by rw [hnp, pv_mk, pl_false]; rfl
    have cnp := Not_pv (p := p) sp
    rw [vp] at cnp
    simp only [List.map_cons, List.map_nil] at cnp
    obtain ⟨nnp, hnnp⟩ : ∃ x, x = Prd.mk 6 0 0 valZ false [Prd.still np] := ⟨_, rfl⟩
    have snnp : Sm nnp := by rw [hnnp]; exact .mk (by simp [valZ, bz]) (by simp) (by intro y hy; simp only [List.mem_cons, List.not_mem_nil, or_false] at hy; first | (subst hy; exact Sm.still (by assumption)) | (rcases hy with rfl | rfl <;> exact Sm.still (by assumption)))
    have vnnp : nnp.pv = [.int .i64 6, .int .i64 0, .int .i64 0, .bool false, .int .i64 0, .int .i64 0, .nils, .sl 8 [(Prd.still np).pv]] := by rw [hnnp, pv_mk, pl_false]; rfl
    have cnnp := Not_pv (p := np) snp
    rw [vnp] at cnnp
    simp only [List.map_cons, List.map_nil] at cnnp
    obtain ⟨a1, ha1⟩ : ∃ x, x = Prd.mk 4 0 0 valZ false [Prd.still p, Prd.still q] := ⟨_, rfl⟩
    have sa1 : Sm a1 := by rw [ha1]; exact .mk (by simp [valZ, bz]) (by simp) (by intro y hy; simp only [List.mem_cons, List.not_mem_nil, or_false] at hy; first | (subst hy; exact Sm.still (by assumption)) | (rcases hy with rfl | rfl <;> exact Sm.still (by assumption)))
    have va1 : a1.pv = [.int .i64 4, .int .i64 0, .int .i64 0, .bool false, .int .i64 0, .int .i64 0, .nils, .sl 8 [(Prd.still p).pv, (Prd.still q).pv]] := by rw [ha1, pv_mk, pl_false]; rfl
    have ca1 := All_spec (l := [p, q]) false (by simp) (by intro y hy; simp only [List.mem_cons, List.not_mem_nil, or_false] at hy; first | (subst hy; assumption) | (rcases hy with rfl | rfl <;> assumption))
    rw [pl_false] at ca1
    simp only [List.map_cons, List.map_nil, vp, vq] at ca1
    obtain ⟨na, hna⟩ : ∃ x, x = Prd.mk 6 0 0 valZ false [Prd.still a1] := ⟨_, rfl⟩
    have sna : Sm na := by rw [hna]; exact .mk (by simp [valZ, bz]) (by simp) (by intro y hy; simp only [List.mem_cons, List.not_mem_nil, or_false] at hy; first | (subst hy; exact Sm.still (by assumption)) | (rcases hy with rfl | rfl <;> exact Sm.still (by assumption)))
    have vna : na.pv = [.int .i64 6, .int .i64 0, .int .i64 0, .bool false, .int .i64 0, .int .i64 0, .nils, .sl 8 [(Prd.still a1).pv]] := by rw [hna, pv_mk, pl_false]; rfl
    have cna := Not_pv (p := a1) sa1
    rw [va1] at cna
    simp only [List.map_cons, List.map_nil] at cna
    obtain ⟨nq, hnq⟩ : ∃ x, x = Prd.mk 6 0 0 valZ false [Prd.still q] := ⟨_, rfl⟩
    have snq : Sm nq := by rw [hnq]; exact .mk (by simp [valZ, bz]) (by simp) (by intro y hy; simp only [List.mem_cons, List.not_mem_nil, or_false] at hy; first | (subst hy; exact Sm.still (by assumption)) | (rcases hy with rfl | rfl <;> exact Sm.still (by assumption)))
    have vnq : nq.pv = [.int .i64 6, .int .i64 0, .int .i64 0, .bool false, .int .i64 0, .int .i64 0, .nils, .sl 8 [(Prd.still q).pv]] := by rw [hnq, pv_mk, pl_false]; rfl
    have cnq := Not_pv (p := q) sq
    rw [vq] at cnq
    simp only [List.map_cons, List.map_nil] at cnq
    obtain ⟨o1, ho1⟩ : ∃ x, x = Prd.mk 5 0 0 valZ false [Prd.still np, Prd.still nq] := ⟨_, rfl⟩
    have so1 : Sm o1 := by rw [ho1]; exact .mk (by simp [valZ, bz]) (by simp) (by intro y hy; simp only [List.mem_cons, List.not_mem_nil, or_false] at hy; first | (subst hy; exact Sm.still (by assumption)) | (rcases hy with rfl | rfl <;> exact Sm.still (by assumption)))
    have vo1 : o1.pv = [.int .i64 5, .int .i64 0, .int .i64 0, .bool false, .int .i64 0, .int .i64 0, .nils, .sl 8 [(Prd.still np).pv, (Prd.still nq).pv]] := by rw [ho1, pv_mk, pl_false]; rfl
    have co1 := Any_spec (l := [np, nq]) false (by simp) (by intro y hy; simp only [List.mem_cons, List.not_mem_nil, or_false] at hy; first | (subst hy; assumption) | (rcases hy with rfl | rfl <;> assumption))
    rw [pl_false] at co1
    simp only [List.map_cons, List.map_nil, vnp, vnq] at co1
    obtain ⟨o2, ho2⟩ : ∃ x, x = Prd.mk 5 0 0 valZ false [Prd.still p, Prd.still q] := ⟨_, rfl⟩
    have so2 : Sm o2 := by rw [ho2]; exact .mk (by simp [valZ, bz]) (by simp) (by intro y hy; simp only [List.mem_cons, List.not_mem_nil, or_false] at hy; first | (subst hy; exact Sm.still (by assumption)) | (rcases hy with rfl | rfl <;> exact Sm.still (by assumption)))
    have vo2 : o2.pv = [.int .i64 5, .int .i64 0, .int .i64 0, .bool false, .int .i64 0, .int .i64 0, .nils, .sl 8 [(Prd.still p).pv, (Prd.still q).pv]] := by rw [ho2, pv_mk, pl_false]; rfl
    have co2 := Any_spec (l := [p, q]) false (by simp) (by intro y hy; simp only [List.mem_cons, List.not_mem_nil, or_false] at hy; first | (subst hy; assumption) | (rcases hy with rfl | rfl <;> assumption))
    rw [pl_false] at co2
    simp only [List.map_cons, List.map_nil, vp, vq] at co2
    obtain ⟨no, hno⟩ : ∃ x, x = Prd.mk 6 0 0 valZ false [Prd.still o2] := ⟨_, rfl⟩
    have sno : Sm no := by rw [hno]; exact .mk (by simp [valZ, bz]) (by simp) (by intro y hy; simp only [List.mem_cons, List.not_mem_nil, or_false] at hy; first | (subst hy; exact Sm.still (by assumption)) | (rcases hy with rfl | rfl <;> exact Sm.still (by assumption)))
    have vno : no.pv = [.int .i64 6, .int .i64 0, .int .i64 0, .bool false, .int .i64 0, .int .i64 0, .nils, .sl 8 [(Prd.still o2).pv]] := by rw [hno, pv_mk, pl_false]; rfl
    have cno := Not_pv (p := o2) so2
    rw [vo2] at cno
    simp only [List.map_cons, List.map_nil] at cno
    obtain ⟨a2, ha2⟩ : ∃ x, x = Prd.mk 4 0 0 valZ false [Prd.still np, Prd.still nq] := ⟨_, rfl⟩
    have sa2 : Sm a2 := by rw [ha2]; exact .mk (by simp [valZ, bz]) (by simp) (by intro y hy; simp only [List.mem_cons, List.not_mem_nil, or_false] at hy; first | (subst hy; exact Sm.still (by assumption)) | (rcases hy with rfl | rfl <;> exact Sm.still (by assumption)))
    have va2 : a2.pv = [.int .i64 4, .int .i64 0, .int .i64 0, .bool false, .int .i64 0, .int .i64 0, .nils, .sl 8 [(Prd.still np).pv, (Prd.still nq).pv]] := by rw [ha2, pv_mk, pl_false]; rfl
    have ca2 := All_spec (l := [np, nq]) false (by simp) (by intro y hy; simp only [List.mem_cons, List.not_mem_nil, or_false] at hy; first | (subst hy; assumption) | (rcases hy with rfl | rfl <;> assumption))
    rw [pl_false] at ca2
    simp only [List.map_cons, List.map_nil, vnp, vnq] at ca2
    obtain ⟨ap, hap⟩ : ∃ x, x = Prd.mk 4 0 0 valZ false [Prd.still p] := ⟨_, rfl⟩
    have sap : Sm ap := by rw [hap]; exact .mk (by simp [valZ, bz]) (by simp) (by intro y hy; simp only [List.mem_cons, List.not_mem_nil, or_false] at hy; first | (subst hy; exact Sm.still (by assumption)) | (rcases hy with rfl | rfl <;> exact Sm.still (by assumption)))
    have vap : ap.pv = [.int .i64 4, .int .i64 0, .int .i64 0, .bool false, .int .i64 0, .int .i64 0, .nils, .sl 8 [(Prd.still p).pv]] := by rw [hap, pv_mk, pl_false]; rfl
    have cap := All_spec (l := [p]) false (by simp) (by intro y hy; simp only [List.mem_cons, List.not_mem_nil, or_false] at hy; first | (subst hy; assumption) | (rcases hy with rfl | rfl <;> assumption))
    rw [pl_false] at cap
    simp only [List.map_cons, List.map_nil, vp] at cap
    obtain ⟨a3, ha3⟩ : ∃ x, x = Prd.mk 4 0 0 valZ false [Prd.still q, Prd.still p] := ⟨_, rfl⟩
    have sa3 : Sm a3 := by rw [ha3]; exact .mk (by simp [valZ, bz]) (by simp) (by intro y hy; simp only [List.mem_cons, List.not_mem_nil, or_false] at hy; first | (subst hy; exact Sm.still (by assumption)) | (rcases hy with rfl | rfl <;> exact Sm.still (by assumption)))
    have va3 : a3.pv = [.int .i64 4, .int .i64 0, .int .i64 0, .bool false, .int .i64 0, .int .i64 0, .nils, .sl 8 [(Prd.still q).pv, (Prd.still p).pv]] := by rw [ha3, pv_mk, pl_false]; rfl
    have ca3 := All_spec (l := [q, p]) false (by simp) (by intro y hy; simp only [List.mem_cons, List.not_mem_nil, or_false] at hy; first | (subst hy; assumption) | (rcases hy with rfl | rfl <;> assumption))
    rw [pl_false] at ca3
    simp only [List.map_cons, List.map_nil, vq, vp] at ca3
    obtain ⟨o3, ho3⟩ : ∃ x, x = Prd.mk 5 0 0 valZ false [Prd.still q, Prd.still p] := ⟨_, rfl⟩
    have so3 : Sm o3 := by rw [ho3]; exact .mk (by simp [valZ, bz]) (by simp) (by intro y hy; simp only [List.mem_cons, List.not_mem_nil, or_false] at hy; first | (subst hy; exact Sm.still (by assumption)) | (rcases hy with rfl | rfl <;> exact Sm.still (by assumption)))
    have vo3 : o3.pv = [.int .i64 5, .int .i64 0, .int .i64 0, .bool false, .int .i64 0, .int .i64 0, .nils, .sl 8 [(Prd.still q).pv, (Prd.still p).pv]] := by rw [ho3, pv_mk, pl_false]; rfl
    have co3 := Any_spec (l := [q, p]) false (by simp) (by intro y hy; simp only [List.mem_cons, List.not_mem_nil, or_false] at hy; first | (subst hy; assumption) | (rcases hy with rfl | rfl <;> assumption))
    rw [pl_false] at co3
    simp only [List.map_cons, List.map_nil, vq, vp] at co3
    obtain ⟨a4, ha4⟩ : ∃ x, x = Prd.mk 4 0 0 valZ false [Prd.still p, Prd.still o2] := ⟨_, rfl⟩
    have sa4 : Sm a4 := by rw [ha4]; exact .mk (by simp [valZ, bz]) (by simp) (by intro y hy; simp only [List.mem_cons, List.not_mem_nil, or_false] at hy; first | (subst hy; exact Sm.still (by assumption)) | (rcases hy with rfl | rfl <;> exact Sm.still (by assumption)))
    have va4 : a4.pv = [.int .i64 4, .int .i64 0, .int .i64 0, .bool false, .int .i64 0, .int .i64 0, .nils, .sl 8 [(Prd.still p).pv, (Prd.still o2).pv]] := by rw [ha4, pv_mk, pl_false]; rfl
    have ca4 := All_spec (l := [p, o2]) false (by simp) (by intro y hy; simp only [List.mem_cons, List.not_mem_nil, or_false] at hy; first | (subst hy; assumption) | (rcases hy with rfl | rfl <;> assumption))
    rw [pl_false] at ca4
    simp only [List.map_cons, List.map_nil, vp, vo2] at ca4
    have ep := e7_spec (row := rowN (schemaN n) row) (rowN_R1 _ _) sp
    rw [vp] at ep
    have ennp := e7_spec (row := rowN (schemaN n) row) (rowN_R1 _ _) snnp
    rw [vnnp] at ennp
    have ena := e7_spec (row := rowN (schemaN n) row) (rowN_R1 _ _) sna
    rw [vna] at ena
    have eo1 := e7_spec (row := rowN (schemaN n) row) (rowN_R1 _ _) so1
    rw [vo1] at eo1
    have eno := e7_spec (row := rowN (schemaN n) row) (rowN_R1 _ _) sno
    rw [vno] at eno
    have ea2 := e7_spec (row := rowN (schemaN n) row) (rowN_R1 _ _) sa2
    rw [va2] at ea2
    have eap := e7_spec (row := rowN (schemaN n) row) (rowN_R1 _ _) sap
    rw [vap] at eap
    have ea1 := e7_spec (row := rowN (schemaN n) row) (rowN_R1 _ _) sa1
    rw [va1] at ea1
    have ea3 := e7_spec (row := rowN (schemaN n) row) (rowN_R1 _ _) sa3
    rw [va3] at ea3
    have eo2 := e7_spec (row := rowN (schemaN n) row) (rowN_R1 _ _) so2
    rw [vo2] at eo2
    have eo3 := e7_spec (row := rowN (schemaN n) row) (rowN_R1 _ _) so3
    rw [vo3] at eo3
    have ea4 := e7_spec (row := rowN (schemaN n) row) (rowN_R1 _ _) sa4
    rw [va4] at ea4
    have w1 : ∀ (r : List Val) (x : Prd), (Prd.mk 6 0 0 valZ false [x.still]).eval r = notI (x.eval r) := fun r x => ev_not
    have w2 : ∀ (r : List Val) (x y : Prd), (Prd.mk 4 0 0 valZ false [x.still, y.still]).eval r = listI 2 1 [x.eval r, y.eval r] := fun r x y => ev_all (l := [x, y])
    have w3 : ∀ (r : List Val) (x y : Prd), (Prd.mk 5 0 0 valZ false [x.still, y.still]).eval r = listI 1 2 [x.eval r, y.eval r] := fun r x y => ev_any (l := [x, y])
    have w4 : ∀ (r : List Val) (x : Prd), (Prd.mk 4 0 0 valZ false [x.still]).eval r = listI 2 1 [x.eval r] := fun r x => ev_all (l := [x])
    obtain ⟨g1, g2, g3, g4, g5, g6, g7⟩ := pure_laws (p.eval (rowN (schemaN n) row)) (q.eval (rowN (schemaN n) row)) (eval_range _ _) (eval_range _ _)
    have k1 := eq_true (show nnp.eval (rowN (schemaN n) row) = p.eval (rowN (schemaN n) row) by rw [hnnp, w1, hnp, w1, g1])
    have k2 := eq_true (show na.eval (rowN (schemaN n) row) = o1.eval (rowN (schemaN n) row) by rw [hna, w1, ha1, w2, ho1, w3, hnp, hnq, w1, w1, g2])
    have k3 := eq_true (show no.eval (rowN (schemaN n) row) = a2.eval (rowN (schemaN n) row) by rw [hno, w1, ho2, w3, ha2, w2, hnp, hnq, w1, w1, g3])
    have k4 := eq_true (show ap.eval (rowN (schemaN n) row) = p.eval (rowN (schemaN n) row) by rw [hap, w4, g4])
    have k5 := eq_true (show a1.eval (rowN (schemaN n) row) = a3.eval (rowN (schemaN n) row) by rw [ha1, ha3, w2, w2, g5])
    have k6 := eq_true (show o2.eval (rowN (schemaN n) row) = o3.eval (rowN (schemaN n) row) by rw [ho2, ho3, w3, w3, g6])
    have k7 := eq_true (show a4.eval (rowN (schemaN n) row) = p.eval (rowN (schemaN n) row) by rw [ha4, w2, ho2, w3, g7])
    clear g1 g2 g3 g4 g5 g6 g7 w1 w2 w3 w4
    simp -implicitDefEqProofs (maxSteps := 4000000) (disch := omega) only [go_sem, ↓Nat.reduceBEq, ↓Nat.reduceEqDiff, ↓Nat.reduceLT, ↓Nat.reduceLeDiff, ↓Int.reduceEq, ↓Int.reduceLT, ↓Int.reduceLE, ↓reduceIte, reduceCtorEq, reduceDIte, Nat.reduceAdd, Nat.reduceMul, Nat.reduceSub, Nat.reduceBEq, Nat.reduceBNe, Nat.reduceBeqDiff, Nat.reduceLT, Nat.reduceLeDiff, Nat.reduceEqDiff, Nat.reduceDiv, Nat.reduceMod, Nat.reducePow, Int.reduceLT, Int.reduceLE, Int.reduceGT, Int.reduceGE, Int.reduceEq, Int.reduceNe, Int.reduceToNat, Int.reduceNeg, Int.reducePow, Int.reduceAdd, Int.reduceMul, Int.reduceSub, Int.reduceBEq, Int.reduceMod, Int.reduceDiv, Int.reduceNatCast, Nat.min_def, Int.add_sub_cancel, Int.add_zero, Nat.add_zero, Nat.zero_add, Int.zero_add, Int.natCast_add, Int.natCast_mul, List.length_append, List.length_take, List.length_drop, List.length_replicate, List.length_set, tdv, tmd, fdv, s64, u64, u8m, ilt_t, ilt_f, ile_t, ile_f, ieq_t, ieq_f, nlt_t, nlt_f, nle_t, nle_f, neq_t, neq_f, Int.toNat_natCast, still_shares, k1, k2, k3, k4, k5, k6, k7, Schema_spec, hP, hQ, hR, awake7, cnp, cnnp, ca1, cna, cnq, co1, co2, cno, ca2, cap, ca3, co3, ca4, ep, ennp, ena, eo1, eno, ea2, eap, ea1, ea3, eo2, eo3, ea4]
    exact ⟨by ((repeat' split) <;> (change _ = true; kernel_rfl)), by ((repeat' split) <;> (change _ = true; kernel_rfl))⟩
  · have vp : p.pv = [.int .i64 p.kind, .int .i64 p.col, .int .i64 p.op, .bool p.val.null, .int .i64 p.val.kind, .int .i64 p.val.int, bl p.val.bytes, .sl 8 (a.pv :: r.map Prd.pv)] := by rw [pv_eq, hpn, hpl]; first | rfl | rw [pl_some]
    have vq : q.pv = [.int .i64 q.kind, .int .i64 q.col, .int .i64 q.op, .bool q.val.null, .int .i64 q.val.kind, .int .i64 q.val.int, bl q.val.bytes, .nils] := by rw [pv_eq, hqn, hql]; first | rfl | rw [pl_some]
    rw [hpl] at hP
    rw [hql] at hQ
    first | rw [plr_nil] at hP | rw [plr_cons] at hP
    first | rw [plr_nil] at hQ | rw [plr_cons] at hQ
    clear hpl hql hpn hqn
    obtain ⟨np, hnp⟩ : ∃ x, x = Prd.mk 6 0 0 valZ false [Prd.still p] := ⟨_, rfl⟩
    have snp : Sm np := by rw [hnp]; exact .mk (by simp [valZ, bz]) (by simp) (by intro y hy; simp only [List.mem_cons, List.not_mem_nil, or_false] at hy; first | (subst hy; exact Sm.still (by assumption)) | (rcases hy with rfl | rfl <;> exact Sm.still (by assumption)))
    have vnp : np.pv = [.int .i64 6, .int .i64 0, .int .i64 0, .bool false, .int .i64 0, .int .i64 0, .nils, .sl 8 [(Prd.still p).pv]] := by rw [hnp, pv_mk, pl_false]; rfl
    have cnp := Not_pv (p := p) sp
    rw [vp] at cnp
    simp only [List.map_cons, List.map_nil] at cnp
    obtain ⟨nnp, hnnp⟩ : ∃ x, x = Prd.mk 6 0 0 valZ false [Prd.still np] := ⟨_, rfl⟩
    have snnp : Sm nnp := by rw [hnnp]; exact .mk (by simp [valZ, bz]) (by simp) (by intro y hy; simp only [List.mem_cons, List.not_mem_nil, or_false] at hy; first | (subst hy; exact Sm.still (by assumption)) | (rcases hy with rfl | rfl <;> exact Sm.still (by assumption)))
    have vnnp : nnp.pv = [.int .i64 6, .int .i64 0, .int .i64 0, .bool false, .int .i64 0, .int .i64 0, .nils, .sl 8 [(Prd.still np).pv]] := by rw [hnnp, pv_mk, pl_false]; rfl
    have cnnp := Not_pv (p := np) snp
    rw [vnp] at cnnp
    simp only [List.map_cons, List.map_nil] at cnnp
    obtain ⟨a1, ha1⟩ : ∃ x, x = Prd.mk 4 0 0 valZ false [Prd.still p, Prd.still q] := ⟨_, rfl⟩
    have sa1 : Sm a1 := by rw [ha1]; exact .mk (by simp [valZ, bz]) (by simp) (by intro y hy; simp only [List.mem_cons, List.not_mem_nil, or_false] at hy; first | (subst hy; exact Sm.still (by assumption)) | (rcases hy with rfl | rfl <;> exact Sm.still (by assumption)))
    have va1 : a1.pv = [.int .i64 4, .int .i64 0, .int .i64 0, .bool false, .int .i64 0, .int .i64 0, .nils, .sl 8 [(Prd.still p).pv, (Prd.still q).pv]] := by rw [ha1, pv_mk, pl_false]; rfl
    have ca1 := All_spec (l := [p, q]) false (by simp) (by intro y hy; simp only [List.mem_cons, List.not_mem_nil, or_false] at hy; first | (subst hy; assumption) | (rcases hy with rfl | rfl <;> assumption))
    rw [pl_false] at ca1
    simp only [List.map_cons, List.map_nil, vp, vq] at ca1
    obtain ⟨na, hna⟩ : ∃ x, x = Prd.mk 6 0 0 valZ false [Prd.still a1] := ⟨_, rfl⟩
    have sna : Sm na := by rw [hna]; exact .mk (by simp [valZ, bz]) (by simp) (by intro y hy; simp only [List.mem_cons, List.not_mem_nil, or_false] at hy; first | (subst hy; exact Sm.still (by assumption)) | (rcases hy with rfl | rfl <;> exact Sm.still (by assumption)))
    have vna : na.pv = [.int .i64 6, .int .i64 0, .int .i64 0, .bool false, .int .i64 0, .int .i64 0, .nils, .sl 8 [(Prd.still a1).pv]] := by rw [hna, pv_mk, pl_false]; rfl
    have cna := Not_pv (p := a1) sa1
    rw [va1] at cna
    simp only [List.map_cons, List.map_nil] at cna
    obtain ⟨nq, hnq⟩ : ∃ x, x = Prd.mk 6 0 0 valZ false [Prd.still q] := ⟨_, rfl⟩
    have snq : Sm nq := by rw [hnq]; exact .mk (by simp [valZ, bz]) (by simp) (by intro y hy; simp only [List.mem_cons, List.not_mem_nil, or_false] at hy; first | (subst hy; exact Sm.still (by assumption)) | (rcases hy with rfl | rfl <;> exact Sm.still (by assumption)))
    have vnq : nq.pv = [.int .i64 6, .int .i64 0, .int .i64 0, .bool false, .int .i64 0, .int .i64 0, .nils, .sl 8 [(Prd.still q).pv]] := by rw [hnq, pv_mk, pl_false]; rfl
    have cnq := Not_pv (p := q) sq
    rw [vq] at cnq
    simp only [List.map_cons, List.map_nil] at cnq
    obtain ⟨o1, ho1⟩ : ∃ x, x = Prd.mk 5 0 0 valZ false [Prd.still np, Prd.still nq] := ⟨_, rfl⟩
    have so1 : Sm o1 := by rw [ho1]; exact .mk (by simp [valZ, bz]) (by simp) (by intro y hy; simp only [List.mem_cons, List.not_mem_nil, or_false] at hy; first | (subst hy; exact Sm.still (by assumption)) | (rcases hy with rfl | rfl <;> exact Sm.still (by assumption)))
    have vo1 : o1.pv = [.int .i64 5, .int .i64 0, .int .i64 0, .bool false, .int .i64 0, .int .i64 0, .nils, .sl 8 [(Prd.still np).pv, (Prd.still nq).pv]] := by rw [ho1, pv_mk, pl_false]; rfl
    have co1 := Any_spec (l := [np, nq]) false (by simp) (by intro y hy; simp only [List.mem_cons, List.not_mem_nil, or_false] at hy; first | (subst hy; assumption) | (rcases hy with rfl | rfl <;> assumption))
    rw [pl_false] at co1
    simp only [List.map_cons, List.map_nil, vnp, vnq] at co1
    obtain ⟨o2, ho2⟩ : ∃ x, x = Prd.mk 5 0 0 valZ false [Prd.still p, Prd.still q] := ⟨_, rfl⟩
    have so2 : Sm o2 := by rw [ho2]; exact .mk (by simp [valZ, bz]) (by simp) (by intro y hy; simp only [List.mem_cons, List.not_mem_nil, or_false] at hy; first | (subst hy; exact Sm.still (by assumption)) | (rcases hy with rfl | rfl <;> exact Sm.still (by assumption)))
    have vo2 : o2.pv = [.int .i64 5, .int .i64 0, .int .i64 0, .bool false, .int .i64 0, .int .i64 0, .nils, .sl 8 [(Prd.still p).pv, (Prd.still q).pv]] := by rw [ho2, pv_mk, pl_false]; rfl
    have co2 := Any_spec (l := [p, q]) false (by simp) (by intro y hy; simp only [List.mem_cons, List.not_mem_nil, or_false] at hy; first | (subst hy; assumption) | (rcases hy with rfl | rfl <;> assumption))
    rw [pl_false] at co2
    simp only [List.map_cons, List.map_nil, vp, vq] at co2
    obtain ⟨no, hno⟩ : ∃ x, x = Prd.mk 6 0 0 valZ false [Prd.still o2] := ⟨_, rfl⟩
    have sno : Sm no := by rw [hno]; exact .mk (by simp [valZ, bz]) (by simp) (by intro y hy; simp only [List.mem_cons, List.not_mem_nil, or_false] at hy; first | (subst hy; exact Sm.still (by assumption)) | (rcases hy with rfl | rfl <;> exact Sm.still (by assumption)))
    have vno : no.pv = [.int .i64 6, .int .i64 0, .int .i64 0, .bool false, .int .i64 0, .int .i64 0, .nils, .sl 8 [(Prd.still o2).pv]] := by rw [hno, pv_mk, pl_false]; rfl
    have cno := Not_pv (p := o2) so2
    rw [vo2] at cno
    simp only [List.map_cons, List.map_nil] at cno
    obtain ⟨a2, ha2⟩ : ∃ x, x = Prd.mk 4 0 0 valZ false [Prd.still np, Prd.still nq] := ⟨_, rfl⟩
    have sa2 : Sm a2 := by rw [ha2]; exact .mk (by simp [valZ, bz]) (by simp) (by intro y hy; simp only [List.mem_cons, List.not_mem_nil, or_false] at hy; first | (subst hy; exact Sm.still (by assumption)) | (rcases hy with rfl | rfl <;> exact Sm.still (by assumption)))
    have va2 : a2.pv = [.int .i64 4, .int .i64 0, .int .i64 0, .bool false, .int .i64 0, .int .i64 0, .nils, .sl 8 [(Prd.still np).pv, (Prd.still nq).pv]] := by rw [ha2, pv_mk, pl_false]; rfl
    have ca2 := All_spec (l := [np, nq]) false (by simp) (by intro y hy; simp only [List.mem_cons, List.not_mem_nil, or_false] at hy; first | (subst hy; assumption) | (rcases hy with rfl | rfl <;> assumption))
    rw [pl_false] at ca2
    simp only [List.map_cons, List.map_nil, vnp, vnq] at ca2
    obtain ⟨ap, hap⟩ : ∃ x, x = Prd.mk 4 0 0 valZ false [Prd.still p] := ⟨_, rfl⟩
    have sap : Sm ap := by rw [hap]; exact .mk (by simp [valZ, bz]) (by simp) (by intro y hy; simp only [List.mem_cons, List.not_mem_nil, or_false] at hy; first | (subst hy; exact Sm.still (by assumption)) | (rcases hy with rfl | rfl <;> exact Sm.still (by assumption)))
    have vap : ap.pv = [.int .i64 4, .int .i64 0, .int .i64 0, .bool false, .int .i64 0, .int .i64 0, .nils, .sl 8 [(Prd.still p).pv]] := by rw [hap, pv_mk, pl_false]; rfl
    have cap := All_spec (l := [p]) false (by simp) (by intro y hy; simp only [List.mem_cons, List.not_mem_nil, or_false] at hy; first | (subst hy; assumption) | (rcases hy with rfl | rfl <;> assumption))
    rw [pl_false] at cap
    simp only [List.map_cons, List.map_nil, vp] at cap
    obtain ⟨a3, ha3⟩ : ∃ x, x = Prd.mk 4 0 0 valZ false [Prd.still q, Prd.still p] := ⟨_, rfl⟩
    have sa3 : Sm a3 := by rw [ha3]; exact .mk (by simp [valZ, bz]) (by simp) (by intro y hy; simp only [List.mem_cons, List.not_mem_nil, or_false] at hy; first | (subst hy; exact Sm.still (by assumption)) | (rcases hy with rfl | rfl <;> exact Sm.still (by assumption)))
    have va3 : a3.pv = [.int .i64 4, .int .i64 0, .int .i64 0, .bool false, .int .i64 0, .int .i64 0, .nils, .sl 8 [(Prd.still q).pv, (Prd.still p).pv]] := by rw [ha3, pv_mk, pl_false]; rfl
    have ca3 := All_spec (l := [q, p]) false (by simp) (by intro y hy; simp only [List.mem_cons, List.not_mem_nil, or_false] at hy; first | (subst hy; assumption) | (rcases hy with rfl | rfl <;> assumption))
    rw [pl_false] at ca3
    simp only [List.map_cons, List.map_nil, vq, vp] at ca3
    obtain ⟨o3, ho3⟩ : ∃ x, x = Prd.mk 5 0 0 valZ false [Prd.still q, Prd.still p] := ⟨_, rfl⟩
    have so3 : Sm o3 := by rw [ho3]; exact .mk (by simp [valZ, bz]) (by simp) (by intro y hy; simp only [List.mem_cons, List.not_mem_nil, or_false] at hy; first | (subst hy; exact Sm.still (by assumption)) | (rcases hy with rfl | rfl <;> exact Sm.still (by assumption)))
    have vo3 : o3.pv = [.int .i64 5, .int .i64 0, .int .i64 0, .bool false, .int .i64 0, .int .i64 0, .nils, .sl 8 [(Prd.still q).pv, (Prd.still p).pv]] := by rw [ho3, pv_mk, pl_false]; rfl
    have co3 := Any_spec (l := [q, p]) false (by simp) (by intro y hy; simp only [List.mem_cons, List.not_mem_nil, or_false] at hy; first | (subst hy; assumption) | (rcases hy with rfl | rfl <;> assumption))
    rw [pl_false] at co3
    simp only [List.map_cons, List.map_nil, vq, vp] at co3
    obtain ⟨a4, ha4⟩ : ∃ x, x = Prd.mk 4 0 0 valZ false [Prd.still p, Prd.still o2] := ⟨_, rfl⟩
    have sa4 : Sm a4 := by rw [ha4]; exact .mk (by simp [valZ, bz]) (by simp) (by intro y hy; simp only [List.mem_cons, List.not_mem_nil, or_false] at hy; first | (subst hy; exact Sm.still (by assumption)) | (rcases hy with rfl | rfl <;> exact Sm.still (by assumption)))
    have va4 : a4.pv = [.int .i64 4, .int .i64 0, .int .i64 0, .bool false, .int .i64 0, .int .i64 0, .nils, .sl 8 [(Prd.still p).pv, (Prd.still o2).pv]] := by rw [ha4, pv_mk, pl_false]; rfl
    have ca4 := All_spec (l := [p, o2]) false (by simp) (by intro y hy; simp only [List.mem_cons, List.not_mem_nil, or_false] at hy; first | (subst hy; assumption) | (rcases hy with rfl | rfl <;> assumption))
    rw [pl_false] at ca4
    simp only [List.map_cons, List.map_nil, vp, vo2] at ca4
    have ep := e7_spec (row := rowN (schemaN n) row) (rowN_R1 _ _) sp
    rw [vp] at ep
    have ennp := e7_spec (row := rowN (schemaN n) row) (rowN_R1 _ _) snnp
    rw [vnnp] at ennp
    have ena := e7_spec (row := rowN (schemaN n) row) (rowN_R1 _ _) sna
    rw [vna] at ena
    have eo1 := e7_spec (row := rowN (schemaN n) row) (rowN_R1 _ _) so1
    rw [vo1] at eo1
    have eno := e7_spec (row := rowN (schemaN n) row) (rowN_R1 _ _) sno
    rw [vno] at eno
    have ea2 := e7_spec (row := rowN (schemaN n) row) (rowN_R1 _ _) sa2
    rw [va2] at ea2
    have eap := e7_spec (row := rowN (schemaN n) row) (rowN_R1 _ _) sap
    rw [vap] at eap
    have ea1 := e7_spec (row := rowN (schemaN n) row) (rowN_R1 _ _) sa1
    rw [va1] at ea1
    have ea3 := e7_spec (row := rowN (schemaN n) row) (rowN_R1 _ _) sa3
    rw [va3] at ea3
    have eo2 := e7_spec (row := rowN (schemaN n) row) (rowN_R1 _ _) so2
    rw [vo2] at eo2
    have eo3 := e7_spec (row := rowN (schemaN n) row) (rowN_R1 _ _) so3
    rw [vo3] at eo3
    have ea4 := e7_spec (row := rowN (schemaN n) row) (rowN_R1 _ _) sa4
    rw [va4] at ea4
    have w1 : ∀ (r : List Val) (x : Prd), (Prd.mk 6 0 0 valZ false [x.still]).eval r = notI (x.eval r) := fun r x => ev_not
    have w2 : ∀ (r : List Val) (x y : Prd), (Prd.mk 4 0 0 valZ false [x.still, y.still]).eval r = listI 2 1 [x.eval r, y.eval r] := fun r x y => ev_all (l := [x, y])
    have w3 : ∀ (r : List Val) (x y : Prd), (Prd.mk 5 0 0 valZ false [x.still, y.still]).eval r = listI 1 2 [x.eval r, y.eval r] := fun r x y => ev_any (l := [x, y])
    have w4 : ∀ (r : List Val) (x : Prd), (Prd.mk 4 0 0 valZ false [x.still]).eval r = listI 2 1 [x.eval r] := fun r x => ev_all (l := [x])
    obtain ⟨g1, g2, g3, g4, g5, g6, g7⟩ := pure_laws (p.eval (rowN (schemaN n) row)) (q.eval (rowN (schemaN n) row)) (eval_range _ _) (eval_range _ _)
    have k1 := eq_true (show nnp.eval (rowN (schemaN n) row) = p.eval (rowN (schemaN n) row) by rw [hnnp, w1, hnp, w1, g1])
    have k2 := eq_true (show na.eval (rowN (schemaN n) row) = o1.eval (rowN (schemaN n) row) by rw [hna, w1, ha1, w2, ho1, w3, hnp, hnq, w1, w1, g2])
    have k3 := eq_true (show no.eval (rowN (schemaN n) row) = a2.eval (rowN (schemaN n) row) by rw [hno, w1, ho2, w3, ha2, w2, hnp, hnq, w1, w1, g3])
    have k4 := eq_true (show ap.eval (rowN (schemaN n) row) = p.eval (rowN (schemaN n) row) by rw [hap, w4, g4])
    have k5 := eq_true (show a1.eval (rowN (schemaN n) row) = a3.eval (rowN (schemaN n) row) by rw [ha1, ha3, w2, w2, g5])
    have k6 := eq_true (show o2.eval (rowN (schemaN n) row) = o3.eval (rowN (schemaN n) row) by rw [ho2, ho3, w3, w3, g6])
    have k7 := eq_true (show a4.eval (rowN (schemaN n) row) = p.eval (rowN (schemaN n) row) by rw [ha4, w2, ho2, w3, g7])
    clear g1 g2 g3 g4 g5 g6 g7 w1 w2 w3 w4
    simp -implicitDefEqProofs (maxSteps := 4000000) (disch := omega) only [go_sem, ↓Nat.reduceBEq, ↓Nat.reduceEqDiff, ↓Nat.reduceLT, ↓Nat.reduceLeDiff, ↓Int.reduceEq, ↓Int.reduceLT, ↓Int.reduceLE, ↓reduceIte, reduceCtorEq, reduceDIte, Nat.reduceAdd, Nat.reduceMul, Nat.reduceSub, Nat.reduceBEq, Nat.reduceBNe, Nat.reduceBeqDiff, Nat.reduceLT, Nat.reduceLeDiff, Nat.reduceEqDiff, Nat.reduceDiv, Nat.reduceMod, Nat.reducePow, Int.reduceLT, Int.reduceLE, Int.reduceGT, Int.reduceGE, Int.reduceEq, Int.reduceNe, Int.reduceToNat, Int.reduceNeg, Int.reducePow, Int.reduceAdd, Int.reduceMul, Int.reduceSub, Int.reduceBEq, Int.reduceMod, Int.reduceDiv, Int.reduceNatCast, Nat.min_def, Int.add_sub_cancel, Int.add_zero, Nat.add_zero, Nat.zero_add, Int.zero_add, Int.natCast_add, Int.natCast_mul, List.length_append, List.length_take, List.length_drop, List.length_replicate, List.length_set, tdv, tmd, fdv, s64, u64, u8m, ilt_t, ilt_f, ile_t, ile_f, ieq_t, ieq_f, nlt_t, nlt_f, nle_t, nle_f, neq_t, neq_f, Int.toNat_natCast, still_shares, k1, k2, k3, k4, k5, k6, k7, Schema_spec, hP, hQ, hR, awake7, cnp, cnnp, ca1, cna, cnq, co1, co2, cno, ca2, cap, ca3, co3, ca4, ep, ennp, ena, eo1, eno, ea2, eap, ea1, ea3, eo2, eo3, ea4]
    exact ⟨by ((repeat' split) <;> (change _ = true; kernel_rfl)), by ((repeat' split) <;> (change _ = true; kernel_rfl))⟩
  · have vp : p.pv = [.int .i64 p.kind, .int .i64 p.col, .int .i64 p.op, .bool p.val.null, .int .i64 p.val.kind, .int .i64 p.val.int, bl p.val.bytes, .sl 8 (a.pv :: r.map Prd.pv)] := by rw [pv_eq, hpn, hpl]; first | rfl | rw [pl_some]
    have vq : q.pv = [.int .i64 q.kind, .int .i64 q.col, .int .i64 q.op, .bool q.val.null, .int .i64 q.val.kind, .int .i64 q.val.int, bl q.val.bytes, .sl 8 (a'.pv :: r'.map Prd.pv)] := by rw [pv_eq, hqn, hql]; first | rfl | rw [pl_some]
    rw [hpl] at hP
    rw [hql] at hQ
    first | rw [plr_nil] at hP | rw [plr_cons] at hP
    first | rw [plr_nil] at hQ | rw [plr_cons] at hQ
    clear hpl hql hpn hqn
    obtain ⟨np, hnp⟩ : ∃ x, x = Prd.mk 6 0 0 valZ false [Prd.still p] := ⟨_, rfl⟩
    have snp : Sm np := by rw [hnp]; exact .mk (by simp [valZ, bz]) (by simp) (by intro y hy; simp only [List.mem_cons, List.not_mem_nil, or_false] at hy; first | (subst hy; exact Sm.still (by assumption)) | (rcases hy with rfl | rfl <;> exact Sm.still (by assumption)))
    have vnp : np.pv = [.int .i64 6, .int .i64 0, .int .i64 0, .bool false, .int .i64 0, .int .i64 0, .nils, .sl 8 [(Prd.still p).pv]] := by rw [hnp, pv_mk, pl_false]; rfl
    have cnp := Not_pv (p := p) sp
    rw [vp] at cnp
    simp only [List.map_cons, List.map_nil] at cnp
    obtain ⟨nnp, hnnp⟩ : ∃ x, x = Prd.mk 6 0 0 valZ false [Prd.still np] := ⟨_, rfl⟩
    have snnp : Sm nnp := by rw [hnnp]; exact .mk (by simp [valZ, bz]) (by simp) (by intro y hy; simp only [List.mem_cons, List.not_mem_nil, or_false] at hy; first | (subst hy; exact Sm.still (by assumption)) | (rcases hy with rfl | rfl <;> exact Sm.still (by assumption)))
    have vnnp : nnp.pv = [.int .i64 6, .int .i64 0, .int .i64 0, .bool false, .int .i64 0, .int .i64 0, .nils, .sl 8 [(Prd.still np).pv]] := by rw [hnnp, pv_mk, pl_false]; rfl
    have cnnp := Not_pv (p := np) snp
    rw [vnp] at cnnp
    simp only [List.map_cons, List.map_nil] at cnnp
    obtain ⟨a1, ha1⟩ : ∃ x, x = Prd.mk 4 0 0 valZ false [Prd.still p, Prd.still q] := ⟨_, rfl⟩
    have sa1 : Sm a1 := by rw [ha1]; exact .mk (by simp [valZ, bz]) (by simp) (by intro y hy; simp only [List.mem_cons, List.not_mem_nil, or_false] at hy; first | (subst hy; exact Sm.still (by assumption)) | (rcases hy with rfl | rfl <;> exact Sm.still (by assumption)))
    have va1 : a1.pv = [.int .i64 4, .int .i64 0, .int .i64 0, .bool false, .int .i64 0, .int .i64 0, .nils, .sl 8 [(Prd.still p).pv, (Prd.still q).pv]] := by rw [ha1, pv_mk, pl_false]; rfl
    have ca1 := All_spec (l := [p, q]) false (by simp) (by intro y hy; simp only [List.mem_cons, List.not_mem_nil, or_false] at hy; first | (subst hy; assumption) | (rcases hy with rfl | rfl <;> assumption))
    rw [pl_false] at ca1
    simp only [List.map_cons, List.map_nil, vp, vq] at ca1
    obtain ⟨na, hna⟩ : ∃ x, x = Prd.mk 6 0 0 valZ false [Prd.still a1] := ⟨_, rfl⟩
    have sna : Sm na := by rw [hna]; exact .mk (by simp [valZ, bz]) (by simp) (by intro y hy; simp only [List.mem_cons, List.not_mem_nil, or_false] at hy; first | (subst hy; exact Sm.still (by assumption)) | (rcases hy with rfl | rfl <;> exact Sm.still (by assumption)))
    have vna : na.pv = [.int .i64 6, .int .i64 0, .int .i64 0, .bool false, .int .i64 0, .int .i64 0, .nils, .sl 8 [(Prd.still a1).pv]] := by rw [hna, pv_mk, pl_false]; rfl
    have cna := Not_pv (p := a1) sa1
    rw [va1] at cna
    simp only [List.map_cons, List.map_nil] at cna
    obtain ⟨nq, hnq⟩ : ∃ x, x = Prd.mk 6 0 0 valZ false [Prd.still q] := ⟨_, rfl⟩
    have snq : Sm nq := by rw [hnq]; exact .mk (by simp [valZ, bz]) (by simp) (by intro y hy; simp only [List.mem_cons, List.not_mem_nil, or_false] at hy; first | (subst hy; exact Sm.still (by assumption)) | (rcases hy with rfl | rfl <;> exact Sm.still (by assumption)))
    have vnq : nq.pv = [.int .i64 6, .int .i64 0, .int .i64 0, .bool false, .int .i64 0, .int .i64 0, .nils, .sl 8 [(Prd.still q).pv]] := by rw [hnq, pv_mk, pl_false]; rfl
    have cnq := Not_pv (p := q) sq
    rw [vq] at cnq
    simp only [List.map_cons, List.map_nil] at cnq
    obtain ⟨o1, ho1⟩ : ∃ x, x = Prd.mk 5 0 0 valZ false [Prd.still np, Prd.still nq] := ⟨_, rfl⟩
    have so1 : Sm o1 := by rw [ho1]; exact .mk (by simp [valZ, bz]) (by simp) (by intro y hy; simp only [List.mem_cons, List.not_mem_nil, or_false] at hy; first | (subst hy; exact Sm.still (by assumption)) | (rcases hy with rfl | rfl <;> exact Sm.still (by assumption)))
    have vo1 : o1.pv = [.int .i64 5, .int .i64 0, .int .i64 0, .bool false, .int .i64 0, .int .i64 0, .nils, .sl 8 [(Prd.still np).pv, (Prd.still nq).pv]] := by rw [ho1, pv_mk, pl_false]; rfl
    have co1 := Any_spec (l := [np, nq]) false (by simp) (by intro y hy; simp only [List.mem_cons, List.not_mem_nil, or_false] at hy; first | (subst hy; assumption) | (rcases hy with rfl | rfl <;> assumption))
    rw [pl_false] at co1
    simp only [List.map_cons, List.map_nil, vnp, vnq] at co1
    obtain ⟨o2, ho2⟩ : ∃ x, x = Prd.mk 5 0 0 valZ false [Prd.still p, Prd.still q] := ⟨_, rfl⟩
    have so2 : Sm o2 := by rw [ho2]; exact .mk (by simp [valZ, bz]) (by simp) (by intro y hy; simp only [List.mem_cons, List.not_mem_nil, or_false] at hy; first | (subst hy; exact Sm.still (by assumption)) | (rcases hy with rfl | rfl <;> exact Sm.still (by assumption)))
    have vo2 : o2.pv = [.int .i64 5, .int .i64 0, .int .i64 0, .bool false, .int .i64 0, .int .i64 0, .nils, .sl 8 [(Prd.still p).pv, (Prd.still q).pv]] := by rw [ho2, pv_mk, pl_false]; rfl
    have co2 := Any_spec (l := [p, q]) false (by simp) (by intro y hy; simp only [List.mem_cons, List.not_mem_nil, or_false] at hy; first | (subst hy; assumption) | (rcases hy with rfl | rfl <;> assumption))
    rw [pl_false] at co2
    simp only [List.map_cons, List.map_nil, vp, vq] at co2
    obtain ⟨no, hno⟩ : ∃ x, x = Prd.mk 6 0 0 valZ false [Prd.still o2] := ⟨_, rfl⟩
    have sno : Sm no := by rw [hno]; exact .mk (by simp [valZ, bz]) (by simp) (by intro y hy; simp only [List.mem_cons, List.not_mem_nil, or_false] at hy; first | (subst hy; exact Sm.still (by assumption)) | (rcases hy with rfl | rfl <;> exact Sm.still (by assumption)))
    have vno : no.pv = [.int .i64 6, .int .i64 0, .int .i64 0, .bool false, .int .i64 0, .int .i64 0, .nils, .sl 8 [(Prd.still o2).pv]] := by rw [hno, pv_mk, pl_false]; rfl
    have cno := Not_pv (p := o2) so2
    rw [vo2] at cno
    simp only [List.map_cons, List.map_nil] at cno
    obtain ⟨a2, ha2⟩ : ∃ x, x = Prd.mk 4 0 0 valZ false [Prd.still np, Prd.still nq] := ⟨_, rfl⟩
    have sa2 : Sm a2 := by rw [ha2]; exact .mk (by simp [valZ, bz]) (by simp) (by intro y hy; simp only [List.mem_cons, List.not_mem_nil, or_false] at hy; first | (subst hy; exact Sm.still (by assumption)) | (rcases hy with rfl | rfl <;> exact Sm.still (by assumption)))
    have va2 : a2.pv = [.int .i64 4, .int .i64 0, .int .i64 0, .bool false, .int .i64 0, .int .i64 0, .nils, .sl 8 [(Prd.still np).pv, (Prd.still nq).pv]] := by rw [ha2, pv_mk, pl_false]; rfl
    have ca2 := All_spec (l := [np, nq]) false (by simp) (by intro y hy; simp only [List.mem_cons, List.not_mem_nil, or_false] at hy; first | (subst hy; assumption) | (rcases hy with rfl | rfl <;> assumption))
    rw [pl_false] at ca2
    simp only [List.map_cons, List.map_nil, vnp, vnq] at ca2
    obtain ⟨ap, hap⟩ : ∃ x, x = Prd.mk 4 0 0 valZ false [Prd.still p] := ⟨_, rfl⟩
    have sap : Sm ap := by rw [hap]; exact .mk (by simp [valZ, bz]) (by simp) (by intro y hy; simp only [List.mem_cons, List.not_mem_nil, or_false] at hy; first | (subst hy; exact Sm.still (by assumption)) | (rcases hy with rfl | rfl <;> exact Sm.still (by assumption)))
    have vap : ap.pv = [.int .i64 4, .int .i64 0, .int .i64 0, .bool false, .int .i64 0, .int .i64 0, .nils, .sl 8 [(Prd.still p).pv]] := by rw [hap, pv_mk, pl_false]; rfl
    have cap := All_spec (l := [p]) false (by simp) (by intro y hy; simp only [List.mem_cons, List.not_mem_nil, or_false] at hy; first | (subst hy; assumption) | (rcases hy with rfl | rfl <;> assumption))
    rw [pl_false] at cap
    simp only [List.map_cons, List.map_nil, vp] at cap
    obtain ⟨a3, ha3⟩ : ∃ x, x = Prd.mk 4 0 0 valZ false [Prd.still q, Prd.still p] := ⟨_, rfl⟩
    have sa3 : Sm a3 := by rw [ha3]; exact .mk (by simp [valZ, bz]) (by simp) (by intro y hy; simp only [List.mem_cons, List.not_mem_nil, or_false] at hy; first | (subst hy; exact Sm.still (by assumption)) | (rcases hy with rfl | rfl <;> exact Sm.still (by assumption)))
    have va3 : a3.pv = [.int .i64 4, .int .i64 0, .int .i64 0, .bool false, .int .i64 0, .int .i64 0, .nils, .sl 8 [(Prd.still q).pv, (Prd.still p).pv]] := by rw [ha3, pv_mk, pl_false]; rfl
    have ca3 := All_spec (l := [q, p]) false (by simp) (by intro y hy; simp only [List.mem_cons, List.not_mem_nil, or_false] at hy; first | (subst hy; assumption) | (rcases hy with rfl | rfl <;> assumption))
    rw [pl_false] at ca3
    simp only [List.map_cons, List.map_nil, vq, vp] at ca3
    obtain ⟨o3, ho3⟩ : ∃ x, x = Prd.mk 5 0 0 valZ false [Prd.still q, Prd.still p] := ⟨_, rfl⟩
    have so3 : Sm o3 := by rw [ho3]; exact .mk (by simp [valZ, bz]) (by simp) (by intro y hy; simp only [List.mem_cons, List.not_mem_nil, or_false] at hy; first | (subst hy; exact Sm.still (by assumption)) | (rcases hy with rfl | rfl <;> exact Sm.still (by assumption)))
    have vo3 : o3.pv = [.int .i64 5, .int .i64 0, .int .i64 0, .bool false, .int .i64 0, .int .i64 0, .nils, .sl 8 [(Prd.still q).pv, (Prd.still p).pv]] := by rw [ho3, pv_mk, pl_false]; rfl
    have co3 := Any_spec (l := [q, p]) false (by simp) (by intro y hy; simp only [List.mem_cons, List.not_mem_nil, or_false] at hy; first | (subst hy; assumption) | (rcases hy with rfl | rfl <;> assumption))
    rw [pl_false] at co3
    simp only [List.map_cons, List.map_nil, vq, vp] at co3
    obtain ⟨a4, ha4⟩ : ∃ x, x = Prd.mk 4 0 0 valZ false [Prd.still p, Prd.still o2] := ⟨_, rfl⟩
    have sa4 : Sm a4 := by rw [ha4]; exact .mk (by simp [valZ, bz]) (by simp) (by intro y hy; simp only [List.mem_cons, List.not_mem_nil, or_false] at hy; first | (subst hy; exact Sm.still (by assumption)) | (rcases hy with rfl | rfl <;> exact Sm.still (by assumption)))
    have va4 : a4.pv = [.int .i64 4, .int .i64 0, .int .i64 0, .bool false, .int .i64 0, .int .i64 0, .nils, .sl 8 [(Prd.still p).pv, (Prd.still o2).pv]] := by rw [ha4, pv_mk, pl_false]; rfl
    have ca4 := All_spec (l := [p, o2]) false (by simp) (by intro y hy; simp only [List.mem_cons, List.not_mem_nil, or_false] at hy; first | (subst hy; assumption) | (rcases hy with rfl | rfl <;> assumption))
    rw [pl_false] at ca4
    simp only [List.map_cons, List.map_nil, vp, vo2] at ca4
    have ep := e7_spec (row := rowN (schemaN n) row) (rowN_R1 _ _) sp
    rw [vp] at ep
    have ennp := e7_spec (row := rowN (schemaN n) row) (rowN_R1 _ _) snnp
    rw [vnnp] at ennp
    have ena := e7_spec (row := rowN (schemaN n) row) (rowN_R1 _ _) sna
    rw [vna] at ena
    have eo1 := e7_spec (row := rowN (schemaN n) row) (rowN_R1 _ _) so1
    rw [vo1] at eo1
    have eno := e7_spec (row := rowN (schemaN n) row) (rowN_R1 _ _) sno
    rw [vno] at eno
    have ea2 := e7_spec (row := rowN (schemaN n) row) (rowN_R1 _ _) sa2
    rw [va2] at ea2
    have eap := e7_spec (row := rowN (schemaN n) row) (rowN_R1 _ _) sap
    rw [vap] at eap
    have ea1 := e7_spec (row := rowN (schemaN n) row) (rowN_R1 _ _) sa1
    rw [va1] at ea1
    have ea3 := e7_spec (row := rowN (schemaN n) row) (rowN_R1 _ _) sa3
    rw [va3] at ea3
    have eo2 := e7_spec (row := rowN (schemaN n) row) (rowN_R1 _ _) so2
    rw [vo2] at eo2
    have eo3 := e7_spec (row := rowN (schemaN n) row) (rowN_R1 _ _) so3
    rw [vo3] at eo3
    have ea4 := e7_spec (row := rowN (schemaN n) row) (rowN_R1 _ _) sa4
    rw [va4] at ea4
    have w1 : ∀ (r : List Val) (x : Prd), (Prd.mk 6 0 0 valZ false [x.still]).eval r = notI (x.eval r) := fun r x => ev_not
    have w2 : ∀ (r : List Val) (x y : Prd), (Prd.mk 4 0 0 valZ false [x.still, y.still]).eval r = listI 2 1 [x.eval r, y.eval r] := fun r x y => ev_all (l := [x, y])
    have w3 : ∀ (r : List Val) (x y : Prd), (Prd.mk 5 0 0 valZ false [x.still, y.still]).eval r = listI 1 2 [x.eval r, y.eval r] := fun r x y => ev_any (l := [x, y])
    have w4 : ∀ (r : List Val) (x : Prd), (Prd.mk 4 0 0 valZ false [x.still]).eval r = listI 2 1 [x.eval r] := fun r x => ev_all (l := [x])
    obtain ⟨g1, g2, g3, g4, g5, g6, g7⟩ := pure_laws (p.eval (rowN (schemaN n) row)) (q.eval (rowN (schemaN n) row)) (eval_range _ _) (eval_range _ _)
    have k1 := eq_true (show nnp.eval (rowN (schemaN n) row) = p.eval (rowN (schemaN n) row) by rw [hnnp, w1, hnp, w1, g1])
    have k2 := eq_true (show na.eval (rowN (schemaN n) row) = o1.eval (rowN (schemaN n) row) by rw [hna, w1, ha1, w2, ho1, w3, hnp, hnq, w1, w1, g2])
    have k3 := eq_true (show no.eval (rowN (schemaN n) row) = a2.eval (rowN (schemaN n) row) by rw [hno, w1, ho2, w3, ha2, w2, hnp, hnq, w1, w1, g3])
    have k4 := eq_true (show ap.eval (rowN (schemaN n) row) = p.eval (rowN (schemaN n) row) by rw [hap, w4, g4])
    have k5 := eq_true (show a1.eval (rowN (schemaN n) row) = a3.eval (rowN (schemaN n) row) by rw [ha1, ha3, w2, w2, g5])
    have k6 := eq_true (show o2.eval (rowN (schemaN n) row) = o3.eval (rowN (schemaN n) row) by rw [ho2, ho3, w3, w3, g6])
    have k7 := eq_true (show a4.eval (rowN (schemaN n) row) = p.eval (rowN (schemaN n) row) by rw [ha4, w2, ho2, w3, g7])
    clear g1 g2 g3 g4 g5 g6 g7 w1 w2 w3 w4
    simp -implicitDefEqProofs (maxSteps := 4000000) (disch := omega) only [go_sem, ↓Nat.reduceBEq, ↓Nat.reduceEqDiff, ↓Nat.reduceLT, ↓Nat.reduceLeDiff, ↓Int.reduceEq, ↓Int.reduceLT, ↓Int.reduceLE, ↓reduceIte, reduceCtorEq, reduceDIte, Nat.reduceAdd, Nat.reduceMul, Nat.reduceSub, Nat.reduceBEq, Nat.reduceBNe, Nat.reduceBeqDiff, Nat.reduceLT, Nat.reduceLeDiff, Nat.reduceEqDiff, Nat.reduceDiv, Nat.reduceMod, Nat.reducePow, Int.reduceLT, Int.reduceLE, Int.reduceGT, Int.reduceGE, Int.reduceEq, Int.reduceNe, Int.reduceToNat, Int.reduceNeg, Int.reducePow, Int.reduceAdd, Int.reduceMul, Int.reduceSub, Int.reduceBEq, Int.reduceMod, Int.reduceDiv, Int.reduceNatCast, Nat.min_def, Int.add_sub_cancel, Int.add_zero, Nat.add_zero, Nat.zero_add, Int.zero_add, Int.natCast_add, Int.natCast_mul, List.length_append, List.length_take, List.length_drop, List.length_replicate, List.length_set, tdv, tmd, fdv, s64, u64, u8m, ilt_t, ilt_f, ile_t, ile_f, ieq_t, ieq_f, nlt_t, nlt_f, nle_t, nle_f, neq_t, neq_f, Int.toNat_natCast, still_shares, k1, k2, k3, k4, k5, k6, k7, Schema_spec, hP, hQ, hR, awake7, cnp, cnnp, ca1, cna, cnq, co1, co2, cno, ca2, cap, ca3, co3, ca4, ep, ennp, ena, eo1, eno, ea2, eap, ea1, ea3, eo2, eo3, ea4]
    exact ⟨by ((repeat' split) <;> (change _ = true; kernel_rfl)), by ((repeat' split) <;> (change _ = true; kernel_rfl))⟩
end Go.Proofs.Ytgnjnkmjcahkeaa.D
