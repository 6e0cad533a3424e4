/- NormTells: what the law comes to. -/
import Derived.Test.YtljjgccgmloajaaRNorm4
import Derived.Test.YtljjgccgmloajaaR6c
namespace Go.Proofs.Ytljjgccgmloajaa.D
open Go Go.Den
set_option linter.unusedSimpArgs false
set_option linter.unusedVariables false
set_option maxRecDepth 20000
set_option maxHeartbeats 8000000
def tellSt (b : Bool) (S : List (List PV)) (L : List Prd) (i : Nat) : St :=
  ⟨[(7, .pb 1048583 0), (38, .h 2099584), (39, .int .i64 4), (40, .int .i64 i)],
   (1048583, some ⟨true, .box [if b then .sl 3 S else .h 2097600]⟩) :: ((if b then [] else [(2097600, some ⟨true, .row 43 3 S⟩)]) ++ [(2099584, some ⟨true, .row 32 8 (L.map Prd.pv)⟩)]), 1⟩
/-- what is known of one of the law's predicates -/
structure Fit (s : List Col) (x : Prd) : Prop where
  sm : Sm x
  rw : RW s.length x
  ct : cnt x ≤ 10000
theorem ways_Sm {p : Prd} (hp : Sm p) : ∀ A, waysN p = some A → ∀ c ∈ A, ∀ q ∈ c.2, Sm q := by
  have kor : ∀ (xs : List (Option Al)) (out A : Al), (∀ x ∈ xs, ∀ B, x = some B → ∀ c ∈ B, ∀ q ∈ c.2, Sm q) → (∀ c ∈ out, ∀ q ∈ c.2, Sm q) → orW xs out = some A → ∀ c ∈ A, ∀ q ∈ c.2, Sm q := by
    intro xs
    induction xs with
    | nil => intro out A _ h e; rw [orW] at e; injection e with e; subst e; exact h
    | cons x r ih =>
      intro out A hx h e
      cases x with
      | none => rw [orW] at e; cases e
      | some l =>
        rw [orW] at e
        split at e
        · cases e
        · refine ih _ _ (fun y hy => hx y (List.mem_cons_of_mem _ hy)) (fun c hc => ?_) e
          rcases List.mem_append.1 hc with hc | hc
          · exact h c hc
          · exact hx _ List.mem_cons_self l rfl c hc
  have kand : ∀ (xs : List (Option Al)) (out A : Al), (∀ x ∈ xs, ∀ B, x = some B → ∀ c ∈ B, ∀ q ∈ c.2, Sm q) → (∀ c ∈ out, ∀ q ∈ c.2, Sm q) → andW xs out = some A → ∀ c ∈ A, ∀ q ∈ c.2, Sm q := by
    intro xs
    induction xs with
    | nil => intro out A _ h e; rw [andW] at e; injection e with e; subst e; exact h
    | cons x r ih =>
      intro out A hx h e
      cases x with
      | none => rw [andW] at e; cases e
      | some l =>
        rw [andW] at e
        split at e
        · cases e
        split at e
        · cases e
        · refine ih _ _ (fun y hy => hx y (List.mem_cons_of_mem _ hy)) (fun c hc q hq => ?_) e
          simp only [crossN, List.mem_flatMap, List.mem_map] at hc
          obtain ⟨x', hx', y, hy, rfl⟩ := hc
          rcases List.mem_append.1 hq with hq | hq
          · exact h x' hx' q hq
          · exact hx _ List.mem_cons_self l rfl y hy q hq
  induction p using Prd.ind with
  | h k c o v n l ih =>
    have hp' := hp
    obtain ⟨hb, hl, hq⟩ := hp
    intro A e
    rw [ways_mk] at e
    split at e
    · refine kor _ _ _ (fun x hx B hB => ?_) (by simp) e
      obtain ⟨q, hm, rfl⟩ := List.mem_map.1 hx
      exact ih q hm (hq q hm) B hB
    split at e
    · refine kand _ _ _ (fun x hx B hB => ?_) (by simp) e
      obtain ⟨q, hm, rfl⟩ := List.mem_map.1 hx
      exact ih q hm (hq q hm) B hB
    · injection e with e; subst e
      intro c hc q hq'
      simp at hc; subst hc
      simp at hq'; subst hq'
      exact hp'
theorem refOr_Sm {A : Al} (h1 : WB A) (h : ∀ c ∈ A, ∀ q ∈ c.2, Sm q) : Sm (refOr A) := by
  refine .mk (by simp [bz, valZ]) (by have := h1.1; simp; omega) fun q hq => ?_
  obtain ⟨c, hc, rfl⟩ := List.mem_map.1 hq
  exact .mk (by simp [bz, valZ]) (by have := h1.2 c hc; omega) (h c hc)
theorem RnLeaf_cases (A : Al) : (RnLeaf A = .nils ∧ pl true (A.map refAnd) = .nils) ∨ (∃ MA : List (List PV), RnLeaf A = .nr 32 8 MA ∧ pl true (A.map refAnd) = .sl 8 MA) := by
  cases A with
  | nil => exact .inl ⟨rfl, rfl⟩
  | cons a r => exact .inr ⟨((a :: r).map refAnd).map Prd.pv, rfl, by rw [List.map_cons, pl_some]⟩
theorem NormTells_spec {n : Int} {l m : List Int} : dw E 3 [.int .i64 n, .sl 1 (ints .i64 l), .sl 1 (ints .i64 m)] [] = some (.bool true, []) := by
  have hs : 1 ≤ (schemaN n).length ∧ (schemaN n).length ≤ 20 := ⟨schemaN_pos n, by have := schemaN_length n; omega⟩
  have hP := Pred_spec (s := schemaN n) (l := l) hs 4 0 (by decide) (by decide)
  have hQ := Pred_spec (s := schemaN n) (l := m) hs 4 0 (by decide) (by decide)
  have hpn := predN_nil (schemaN n) l 4 0
  have hqn := predN_nil (schemaN n) m 4 0
  have fp : Fit (schemaN n) (predN (schemaN n) l 4 0) := ⟨predN_Sm _ _ _ _, predN_RW hs.1 l 4 0, by have : cnt (predN (schemaN n) l 4 0) ≤ 256 := cnt_predN (schemaN n) l 4 0; omega⟩
  have fq : Fit (schemaN n) (predN (schemaN n) m 4 0) := ⟨predN_Sm _ _ _ _, predN_RW hs.1 m 4 0, by have : cnt (predN (schemaN n) m 4 0) ≤ 256 := cnt_predN (schemaN n) m 4 0; omega⟩
  have c1 : cnt (predN (schemaN n) l 4 0) ≤ 256 := cnt_predN (schemaN n) l 4 0
  have c2 : cnt (predN (schemaN n) m 4 0) ≤ 256 := cnt_predN (schemaN n) m 4 0
  simp only [cast0, cast4] at hP hQ
  generalize predN (schemaN n) l 4 0 = p at hP hpn fp c1
  generalize predN (schemaN n) m 4 0 = q at hQ hqn fq c2
  have fa : Fit (schemaN n) (.mk 4 0 0 valZ false [q, p, q]) := by
    refine ⟨.mk (by simp [bz, valZ]) (by simp) (fun x hx => ?_), .mk (by decide) (fun h => by cases h) (fun h => by cases h) (fun h => by cases h) (fun x hx => ?_), by rw [cnt_mk, cnts_cons, cnts_cons, cnts_cons, cnts_nil]; omega⟩
    · simp at hx; rcases hx with rfl | rfl | rfl
      · exact fq.sm
      · exact fp.sm
      · exact fq.sm
    · simp at hx; rcases hx with rfl | rfl | rfl
      · exact fq.rw
      · exact fp.rw
      · exact fq.rw
  have fn : Fit (schemaN n) (.mk 6 0 0 valZ false [q]) := by
    refine ⟨.mk (by simp [bz, valZ]) (by simp) (fun x hx => ?_), .mk (by decide) (fun h => by cases h) (fun h => by cases h) (fun h => by simp) (fun x hx => ?_), by rw [cnt_mk, cnts_cons, cnts_nil]; omega⟩
    · simp at hx; subst hx; exact fq.sm
    · simp at hx; subst hx; exact fq.rw
  have va : (Prd.mk 4 0 0 valZ false [q, p, q]).pv = [.int .i64 4, .int .i64 0, .int .i64 0, .bool false, .int .i64 0, .int .i64 0, .nils, .sl 8 [q.pv, p.pv, q.pv]] := by rw [pv_mk]; rfl
  have vn : (Prd.mk 6 0 0 valZ false [q]).pv = [.int .i64 6, .int .i64 0, .int .i64 0, .bool false, .int .i64 0, .int .i64 0, .nils, .sl 8 [q.pv]] := by rw [pv_mk]; rfl
  obtain ⟨a, ha⟩ : ∃ a, a = Prd.mk 4 0 0 valZ false [q, p, q] := ⟨_, rfl⟩
  obtain ⟨z, hz⟩ : ∃ z, z = Prd.mk 6 0 0 valZ false [q] := ⟨_, rfl⟩
  rw [← ha] at fa va
  rw [← hz] at fn vn
  have hL : ∀ x ∈ [p, q, a, z], Fit (schemaN n) x := fun x hx => by
    simp at hx
    rcases hx with rfl | rfl | rfl | rfl
    · exact fp
    · exact fq
    · exact fa
    · exact fn
  clear fa fn fp fq c1 c2 ha hz
  have h8 := awake8
  refine dw_in (fn := Try.f3) rfl body3 (by simp) ?_
  rcases hpl : p.list with _ | ⟨pa, pr⟩ <;> rcases hql : q.list with _ | ⟨qa, qr⟩
  · have vp : p.pv = [.int .i64 p.kind, .int .i64 p.col, .int .i64 p.op, .bool p.val.null, .int .i64 p.val.kind, .int .i64 p.val.int, bl p.val.bytes, .nils] := by rw [pv_eq, hpn, hpl]; first | rfl | (rw [pl_some]; rfl)
    have vq : q.pv = [.int .i64 q.kind, .int .i64 q.col, .int .i64 q.op, .bool q.val.null, .int .i64 q.val.kind, .int .i64 q.val.int, bl q.val.bytes, .nils] := by rw [pv_eq, hqn, hql]; first | rfl | (rw [pl_some]; rfl)
    rw [hpl, plr_nil] at hP
    rw [hql, plr_nil] at hQ
    rw [vp, vq] at va
    rw [vq] at vn
    obtain ⟨b1, hb1⟩ : ∃ b1, sharesLeaf (bl p.val.bytes) = b1 := ⟨_, rfl⟩
    obtain ⟨b2, hb2⟩ : ∃ b2, sharesLeaf (bl q.val.bytes) = b2 := ⟨_, rfl⟩
    clear hpl hql hpn hqn
    simp -implicitDefEqProofs (maxSteps := 4000000) (disch := omega) only [go_sem, go_sem_proc, dr, Nat.min_def, ↓Nat.reduceBEq, ↓Nat.reduceEqDiff, ↓Nat.reduceLT, ↓Nat.reduceLeDiff, ↓Int.reduceEq, ↓Int.reduceLT, ↓Int.reduceLE, ↓reduceIte, Schema_spec, hP, hQ, hb1, hb2]
    refine ⟨by ((repeat' split) <;> (change _ = true; kernel_rfl)), ?_⟩
    refine runs_for (tellSt (b1 || b2) ((schemaN n).map Col.pv) [p, q, a, z]) 4 ?_ ?_ ?_
    · cases b1 <;> cases b2 <;> simp -implicitDefEqProofs (maxSteps := 4000000) (disch := omega) only [go_sem, go_sem_proc, dr, Nat.min_def, ↓Nat.reduceBEq, ↓Nat.reduceEqDiff, ↓Nat.reduceLT, ↓Nat.reduceLeDiff, ↓Int.reduceEq, ↓Int.reduceLT, ↓Int.reduceLE, ↓reduceIte, tellSt, vp, vq, va, vn]
    · clear vp vq va vn hP hQ hb1 hb2
      intro i hi
      generalize hLL : [p, q, a, z] = L at hL
      have hlen : L.length = 4 := by rw [← hLL]; rfl
      clear hLL
      obtain ⟨x, hx, hxm, _⟩ := take_get (show i < L.length by omega)
      obtain ⟨sx, rx, cx⟩ := hL x hxm
      clear hL
      have hO := OkPred_spec hs.2 sx
      have hK := Key_spec sx cx
      have hRK := RKey_spec sx rx
      rw [keys_same rx] at hRK
      generalize keyN x = K at hK hRK
      obtain ⟨kk, kb, hkk⟩ : ∃ (kk : Int) (kb : Bool), keyPV K = .tup [.int .i64 kk, .bool kb] := by cases K <;> exact ⟨_, _, rfl⟩
      rw [hkk] at hK hRK
      generalize okP (schemaN n) x = ob at hO
      obtain ⟨b, hb⟩ : ∃ b, (b1 || b2) = b := ⟨_, rfl⟩
      rw [hb]
      clear hb hkk
      cases ob with
      | false =>
        cases b
        · simp -implicitDefEqProofs (maxSteps := 4000000) (disch := omega) only [go_sem, go_sem_proc, dr, Nat.min_def, ↓Nat.reduceBEq, ↓Nat.reduceEqDiff, ↓Nat.reduceLT, ↓Nat.reduceLeDiff, ↓Int.reduceEq, ↓Int.reduceLT, ↓Int.reduceLE, ↓reduceIte, tellSt, hx, hlen, pv_eq, hO]
          first | done | ((repeat' split) <;> (change _ = true; kernel_rfl))
        · simp -implicitDefEqProofs (maxSteps := 4000000) (disch := omega) only [go_sem, go_sem_proc, dr, Nat.min_def, ↓Nat.reduceBEq, ↓Nat.reduceEqDiff, ↓Nat.reduceLT, ↓Nat.reduceLeDiff, ↓Int.reduceEq, ↓Int.reduceLT, ↓Int.reduceLE, ↓reduceIte, tellSt, hx, hlen, pv_eq, hO]
          first | done | ((repeat' split) <;> (change _ = true; kernel_rfl))
      | true =>
        have rel := rel_form rx false
        cases hw : waysN (inN false x) with
        | none =>
          rw [hw] at rel
          have rel : (formN false x).2 = false := rel
          have hN := Norm_no sx cx rel
          have hRN := RNorm_no sx rx hw
          have hS := SamePred_spec (p := .mk 0 0 0 valZ true []) (.mk (by simp [bz, valZ]) (by simp) (by simp)) (q := .mk 0 0 0 valZ true []) (.mk (by simp [bz, valZ]) (by simp) (by simp))
          rw [same_refl] at hS
          simp only [mk_kind, mk_col, mk_op, mk_val, mk_nil, mk_list, valZ, bl_none, pl_nil] at hS
          clear rel hw sx rx cx
          cases b
          · cases kb
            · simp -implicitDefEqProofs (maxSteps := 4000000) (disch := omega) only [go_sem, go_sem_proc, dr, Nat.min_def, ↓Nat.reduceBEq, ↓Nat.reduceEqDiff, ↓Nat.reduceLT, ↓Nat.reduceLeDiff, ↓Int.reduceEq, ↓Int.reduceLT, ↓Int.reduceLE, ↓reduceIte, tellSt, hx, hlen, pv_eq, hO, hN, hRN, hK, hRK, hS]
              first | done | ((repeat' split) <;> (change _ = true; kernel_rfl))
            · simp -implicitDefEqProofs (maxSteps := 4000000) (disch := omega) only [go_sem, go_sem_proc, dr, Nat.min_def, ↓Nat.reduceBEq, ↓Nat.reduceEqDiff, ↓Nat.reduceLT, ↓Nat.reduceLeDiff, ↓Int.reduceEq, ↓Int.reduceLT, ↓Int.reduceLE, ↓reduceIte, tellSt, hx, hlen, pv_eq, hO, hN, hRN, hK, hRK, hS]
              first | done | ((repeat' split) <;> (change _ = true; kernel_rfl))
          · cases kb
            · simp -implicitDefEqProofs (maxSteps := 4000000) (disch := omega) only [go_sem, go_sem_proc, dr, Nat.min_def, ↓Nat.reduceBEq, ↓Nat.reduceEqDiff, ↓Nat.reduceLT, ↓Nat.reduceLeDiff, ↓Int.reduceEq, ↓Int.reduceLT, ↓Int.reduceLE, ↓reduceIte, tellSt, hx, hlen, pv_eq, hO, hN, hRN, hK, hRK, hS]
              first | done | ((repeat' split) <;> (change _ = true; kernel_rfl))
            · simp -implicitDefEqProofs (maxSteps := 4000000) (disch := omega) only [go_sem, go_sem_proc, dr, Nat.min_def, ↓Nat.reduceBEq, ↓Nat.reduceEqDiff, ↓Nat.reduceLT, ↓Nat.reduceLeDiff, ↓Int.reduceEq, ↓Int.reduceLT, ↓Int.reduceLE, ↓reduceIte, tellSt, hx, hlen, pv_eq, hO, hN, hRN, hK, hRK, hS]
              first | done | ((repeat' split) <;> (change _ = true; kernel_rfl))
        | some A =>
          rw [hw] at rel
          obtain ⟨rel1, rel2⟩ : (formN false x).2 = true ∧ SL A = (formN false x).1.map (·.2) := rel
          have hN := Norm_yes sx cx rel1
          have hRN := RNorm_yes sx rx hw
          have g := form_Gd sx false
          have gl := form_len (p := x) false rel1
          have hS := SamePred_spec (orN_Sm (A := (formN false x).1) (by omega) (fun c hc => by have := g.ok rel1 c hc; omega) g.sm) (refOr_Sm (ways_wb A hw) (ways_Sm (in_Sm sx rx false) A hw))
          rw [or_same rel2] at hS
          simp only [orN, refOr, mk_kind, mk_col, mk_op, mk_val, mk_nil, mk_list, valZ, bl_none, pl_false] at hS
          generalize (((formN false x).1.map andN).map Prd.still).map Prd.pv = MB at hN hS
          clear rel1 rel2 hw sx rx cx g gl
          rcases RnLeaf_cases A with ⟨e1, e2⟩ | ⟨MA, e1, e2⟩
          · rw [e1] at hRN
            rw [e2] at hS
            clear e1 e2
            cases b <;> cases kb
            all_goals
              simp -implicitDefEqProofs (maxSteps := 4000000) (disch := omega) only [go_sem, go_sem_proc, dr, Nat.min_def, ↓Nat.reduceBEq, ↓Nat.reduceEqDiff, ↓Nat.reduceLT, ↓Nat.reduceLeDiff, ↓Int.reduceEq, ↓Int.reduceLT, ↓Int.reduceLE, ↓reduceIte, tellSt, hx, hlen, pv_eq, hO, hN, hRN, hK, hRK, hS]
              first | done | ((repeat' split) <;> (change _ = true; kernel_rfl))
          · rw [e1] at hRN
            rw [e2] at hS
            clear e1 e2
            cases b <;> cases kb
            all_goals
              simp -implicitDefEqProofs (maxSteps := 4000000) (disch := omega) only [go_sem, go_sem_proc, dr, Nat.min_def, ↓Nat.reduceBEq, ↓Nat.reduceEqDiff, ↓Nat.reduceLT, ↓Nat.reduceLeDiff, ↓Int.reduceEq, ↓Int.reduceLT, ↓Int.reduceLE, ↓reduceIte, tellSt, hx, hlen, pv_eq, hO, hN, hRN, hK, hRK, hS]
              first | done | ((repeat' split) <;> (change _ = true; kernel_rfl))
    · simp -implicitDefEqProofs (maxSteps := 4000000) (disch := omega) only [go_sem, go_sem_proc, dr, Nat.min_def, ↓Nat.reduceBEq, ↓Nat.reduceEqDiff, ↓Nat.reduceLT, ↓Nat.reduceLeDiff, ↓Int.reduceEq, ↓Int.reduceLT, ↓Int.reduceLE, ↓reduceIte, tellSt, h8]
  · have vp : p.pv = [.int .i64 p.kind, .int .i64 p.col, .int .i64 p.op, .bool p.val.null, .int .i64 p.val.kind, .int .i64 p.val.int, bl p.val.bytes, .nils] := by rw [pv_eq, hpn, hpl]; first | rfl | (rw [pl_some]; rfl)
    have vq : q.pv = [.int .i64 q.kind, .int .i64 q.col, .int .i64 q.op, .bool q.val.null, .int .i64 q.val.kind, .int .i64 q.val.int, bl q.val.bytes, .sl 8 (qa.pv :: qr.map Prd.pv)] := by rw [pv_eq, hqn, hql]; first | rfl | (rw [pl_some]; rfl)
    rw [hpl, plr_nil] at hP
    rw [hql, plr_cons] at hQ
    simp only [List.map_cons] at hQ
    rw [vp, vq] at va
    rw [vq] at vn
    obtain ⟨b1, hb1⟩ : ∃ b1, sharesLeaf (bl p.val.bytes) = b1 := ⟨_, rfl⟩
    obtain ⟨b2, hb2⟩ : ∃ b2, (sharesLeaf (bl q.val.bytes) || (qa.pv.any sharesP || (qr.map Prd.pv).any fun x => x.any sharesP)) = b2 := ⟨_, rfl⟩
    clear hpl hql hpn hqn
    simp -implicitDefEqProofs (maxSteps := 4000000) (disch := omega) only [go_sem, go_sem_proc, dr, Nat.min_def, ↓Nat.reduceBEq, ↓Nat.reduceEqDiff, ↓Nat.reduceLT, ↓Nat.reduceLeDiff, ↓Int.reduceEq, ↓Int.reduceLT, ↓Int.reduceLE, ↓reduceIte, Schema_spec, hP, hQ, hb1, hb2]
    refine ⟨by ((repeat' split) <;> (change _ = true; kernel_rfl)), ?_⟩
    refine runs_for (tellSt (b1 || b2) ((schemaN n).map Col.pv) [p, q, a, z]) 4 ?_ ?_ ?_
    · cases b1 <;> cases b2 <;> simp -implicitDefEqProofs (maxSteps := 4000000) (disch := omega) only [go_sem, go_sem_proc, dr, Nat.min_def, ↓Nat.reduceBEq, ↓Nat.reduceEqDiff, ↓Nat.reduceLT, ↓Nat.reduceLeDiff, ↓Int.reduceEq, ↓Int.reduceLT, ↓Int.reduceLE, ↓reduceIte, tellSt, vp, vq, va, vn]
    · clear vp vq va vn hP hQ hb1 hb2
      intro i hi
      generalize hLL : [p, q, a, z] = L at hL
      have hlen : L.length = 4 := by rw [← hLL]; rfl
      clear hLL
      obtain ⟨x, hx, hxm, _⟩ := take_get (show i < L.length by omega)
      obtain ⟨sx, rx, cx⟩ := hL x hxm
      clear hL
      have hO := OkPred_spec hs.2 sx
      have hK := Key_spec sx cx
      have hRK := RKey_spec sx rx
      rw [keys_same rx] at hRK
      generalize keyN x = K at hK hRK
      obtain ⟨kk, kb, hkk⟩ : ∃ (kk : Int) (kb : Bool), keyPV K = .tup [.int .i64 kk, .bool kb] := by cases K <;> exact ⟨_, _, rfl⟩
      rw [hkk] at hK hRK
      generalize okP (schemaN n) x = ob at hO
      obtain ⟨b, hb⟩ : ∃ b, (b1 || b2) = b := ⟨_, rfl⟩
      rw [hb]
      clear hb hkk
      cases ob with
      | false =>
        cases b
        · simp -implicitDefEqProofs (maxSteps := 4000000) (disch := omega) only [go_sem, go_sem_proc, dr, Nat.min_def, ↓Nat.reduceBEq, ↓Nat.reduceEqDiff, ↓Nat.reduceLT, ↓Nat.reduceLeDiff, ↓Int.reduceEq, ↓Int.reduceLT, ↓Int.reduceLE, ↓reduceIte, tellSt, hx, hlen, pv_eq, hO]
          first | done | ((repeat' split) <;> (change _ = true; kernel_rfl))
        · simp -implicitDefEqProofs (maxSteps := 4000000) (disch := omega) only [go_sem, go_sem_proc, dr, Nat.min_def, ↓Nat.reduceBEq, ↓Nat.reduceEqDiff, ↓Nat.reduceLT, ↓Nat.reduceLeDiff, ↓Int.reduceEq, ↓Int.reduceLT, ↓Int.reduceLE, ↓reduceIte, tellSt, hx, hlen, pv_eq, hO]
          first | done | ((repeat' split) <;> (change _ = true; kernel_rfl))
      | true =>
        have rel := rel_form rx false
        cases hw : waysN (inN false x) with
        | none =>
          rw [hw] at rel
          have rel : (formN false x).2 = false := rel
          have hN := Norm_no sx cx rel
          have hRN := RNorm_no sx rx hw
          have hS := SamePred_spec (p := .mk 0 0 0 valZ true []) (.mk (by simp [bz, valZ]) (by simp) (by simp)) (q := .mk 0 0 0 valZ true []) (.mk (by simp [bz, valZ]) (by simp) (by simp))
          rw [same_refl] at hS
          simp only [mk_kind, mk_col, mk_op, mk_val, mk_nil, mk_list, valZ, bl_none, pl_nil] at hS
          clear rel hw sx rx cx
          cases b
          · cases kb
            · simp -implicitDefEqProofs (maxSteps := 4000000) (disch := omega) only [go_sem, go_sem_proc, dr, Nat.min_def, ↓Nat.reduceBEq, ↓Nat.reduceEqDiff, ↓Nat.reduceLT, ↓Nat.reduceLeDiff, ↓Int.reduceEq, ↓Int.reduceLT, ↓Int.reduceLE, ↓reduceIte, tellSt, hx, hlen, pv_eq, hO, hN, hRN, hK, hRK, hS]
              first | done | ((repeat' split) <;> (change _ = true; kernel_rfl))
            · simp -implicitDefEqProofs (maxSteps := 4000000) (disch := omega) only [go_sem, go_sem_proc, dr, Nat.min_def, ↓Nat.reduceBEq, ↓Nat.reduceEqDiff, ↓Nat.reduceLT, ↓Nat.reduceLeDiff, ↓Int.reduceEq, ↓Int.reduceLT, ↓Int.reduceLE, ↓reduceIte, tellSt, hx, hlen, pv_eq, hO, hN, hRN, hK, hRK, hS]
              first | done | ((repeat' split) <;> (change _ = true; kernel_rfl))
          · cases kb
            · simp -implicitDefEqProofs (maxSteps := 4000000) (disch := omega) only [go_sem, go_sem_proc, dr, Nat.min_def, ↓Nat.reduceBEq, ↓Nat.reduceEqDiff, ↓Nat.reduceLT, ↓Nat.reduceLeDiff, ↓Int.reduceEq, ↓Int.reduceLT, ↓Int.reduceLE, ↓reduceIte, tellSt, hx, hlen, pv_eq, hO, hN, hRN, hK, hRK, hS]
              first | done | ((repeat' split) <;> (change _ = true; kernel_rfl))
            · simp -implicitDefEqProofs (maxSteps := 4000000) (disch := omega) only [go_sem, go_sem_proc, dr, Nat.min_def, ↓Nat.reduceBEq, ↓Nat.reduceEqDiff, ↓Nat.reduceLT, ↓Nat.reduceLeDiff, ↓Int.reduceEq, ↓Int.reduceLT, ↓Int.reduceLE, ↓reduceIte, tellSt, hx, hlen, pv_eq, hO, hN, hRN, hK, hRK, hS]
              first | done | ((repeat' split) <;> (change _ = true; kernel_rfl))
        | some A =>
          rw [hw] at rel
          obtain ⟨rel1, rel2⟩ : (formN false x).2 = true ∧ SL A = (formN false x).1.map (·.2) := rel
          have hN := Norm_yes sx cx rel1
          have hRN := RNorm_yes sx rx hw
          have g := form_Gd sx false
          have gl := form_len (p := x) false rel1
          have hS := SamePred_spec (orN_Sm (A := (formN false x).1) (by omega) (fun c hc => by have := g.ok rel1 c hc; omega) g.sm) (refOr_Sm (ways_wb A hw) (ways_Sm (in_Sm sx rx false) A hw))
          rw [or_same rel2] at hS
          simp only [orN, refOr, mk_kind, mk_col, mk_op, mk_val, mk_nil, mk_list, valZ, bl_none, pl_false] at hS
          generalize (((formN false x).1.map andN).map Prd.still).map Prd.pv = MB at hN hS
          clear rel1 rel2 hw sx rx cx g gl
          rcases RnLeaf_cases A with ⟨e1, e2⟩ | ⟨MA, e1, e2⟩
          · rw [e1] at hRN
            rw [e2] at hS
            clear e1 e2
            cases b <;> cases kb
            all_goals
              simp -implicitDefEqProofs (maxSteps := 4000000) (disch := omega) only [go_sem, go_sem_proc, dr, Nat.min_def, ↓Nat.reduceBEq, ↓Nat.reduceEqDiff, ↓Nat.reduceLT, ↓Nat.reduceLeDiff, ↓Int.reduceEq, ↓Int.reduceLT, ↓Int.reduceLE, ↓reduceIte, tellSt, hx, hlen, pv_eq, hO, hN, hRN, hK, hRK, hS]
              first | done | ((repeat' split) <;> (change _ = true; kernel_rfl))
          · rw [e1] at hRN
            rw [e2] at hS
            clear e1 e2
            cases b <;> cases kb
            all_goals
              simp -implicitDefEqProofs (maxSteps := 4000000) (disch := omega) only [go_sem, go_sem_proc, dr, Nat.min_def, ↓Nat.reduceBEq, ↓Nat.reduceEqDiff, ↓Nat.reduceLT, ↓Nat.reduceLeDiff, ↓Int.reduceEq, ↓Int.reduceLT, ↓Int.reduceLE, ↓reduceIte, tellSt, hx, hlen, pv_eq, hO, hN, hRN, hK, hRK, hS]
              first | done | ((repeat' split) <;> (change _ = true; kernel_rfl))
    · simp -implicitDefEqProofs (maxSteps := 4000000) (disch := omega) only [go_sem, go_sem_proc, dr, Nat.min_def, ↓Nat.reduceBEq, ↓Nat.reduceEqDiff, ↓Nat.reduceLT, ↓Nat.reduceLeDiff, ↓Int.reduceEq, ↓Int.reduceLT, ↓Int.reduceLE, ↓reduceIte, tellSt, h8]
  · have vp : p.pv = [.int .i64 p.kind, .int .i64 p.col, .int .i64 p.op, .bool p.val.null, .int .i64 p.val.kind, .int .i64 p.val.int, bl p.val.bytes, .sl 8 (pa.pv :: pr.map Prd.pv)] := by rw [pv_eq, hpn, hpl]; first | rfl | (rw [pl_some]; rfl)
    have vq : q.pv = [.int .i64 q.kind, .int .i64 q.col, .int .i64 q.op, .bool q.val.null, .int .i64 q.val.kind, .int .i64 q.val.int, bl q.val.bytes, .nils] := by rw [pv_eq, hqn, hql]; first | rfl | (rw [pl_some]; rfl)
    rw [hpl, plr_cons] at hP
    rw [hql, plr_nil] at hQ
    simp only [List.map_cons] at hP
    rw [vp, vq] at va
    rw [vq] at vn
    obtain ⟨b1, hb1⟩ : ∃ b1, (sharesLeaf (bl p.val.bytes) || (pa.pv.any sharesP || (pr.map Prd.pv).any fun x => x.any sharesP)) = b1 := ⟨_, rfl⟩
    obtain ⟨b2, hb2⟩ : ∃ b2, sharesLeaf (bl q.val.bytes) = b2 := ⟨_, rfl⟩
    clear hpl hql hpn hqn
    simp -implicitDefEqProofs (maxSteps := 4000000) (disch := omega) only [go_sem, go_sem_proc, dr, Nat.min_def, ↓Nat.reduceBEq, ↓Nat.reduceEqDiff, ↓Nat.reduceLT, ↓Nat.reduceLeDiff, ↓Int.reduceEq, ↓Int.reduceLT, ↓Int.reduceLE, ↓reduceIte, Schema_spec, hP, hQ, hb1, hb2]
    refine ⟨by ((repeat' split) <;> (change _ = true; kernel_rfl)), ?_⟩
    refine runs_for (tellSt (b1 || b2) ((schemaN n).map Col.pv) [p, q, a, z]) 4 ?_ ?_ ?_
    · cases b1 <;> cases b2 <;> simp -implicitDefEqProofs (maxSteps := 4000000) (disch := omega) only [go_sem, go_sem_proc, dr, Nat.min_def, ↓Nat.reduceBEq, ↓Nat.reduceEqDiff, ↓Nat.reduceLT, ↓Nat.reduceLeDiff, ↓Int.reduceEq, ↓Int.reduceLT, ↓Int.reduceLE, ↓reduceIte, tellSt, vp, vq, va, vn]
    · clear vp vq va vn hP hQ hb1 hb2
      intro i hi
      generalize hLL : [p, q, a, z] = L at hL
      have hlen : L.length = 4 := by rw [← hLL]; rfl
      clear hLL
      obtain ⟨x, hx, hxm, _⟩ := take_get (show i < L.length by omega)
      obtain ⟨sx, rx, cx⟩ := hL x hxm
      clear hL
      have hO := OkPred_spec hs.2 sx
      have hK := Key_spec sx cx
      have hRK := RKey_spec sx rx
      rw [keys_same rx] at hRK
      generalize keyN x = K at hK hRK
      obtain ⟨kk, kb, hkk⟩ : ∃ (kk : Int) (kb : Bool), keyPV K = .tup [.int .i64 kk, .bool kb] := by cases K <;> exact ⟨_, _, rfl⟩
      rw [hkk] at hK hRK
      generalize okP (schemaN n) x = ob at hO
      obtain ⟨b, hb⟩ : ∃ b, (b1 || b2) = b := ⟨_, rfl⟩
      rw [hb]
      clear hb hkk
      cases ob with
      | false =>
        cases b
        · simp -implicitDefEqProofs (maxSteps := 4000000) (disch := omega) only [go_sem, go_sem_proc, dr, Nat.min_def, ↓Nat.reduceBEq, ↓Nat.reduceEqDiff, ↓Nat.reduceLT, ↓Nat.reduceLeDiff, ↓Int.reduceEq, ↓Int.reduceLT, ↓Int.reduceLE, ↓reduceIte, tellSt, hx, hlen, pv_eq, hO]
          first | done | ((repeat' split) <;> (change _ = true; kernel_rfl))
        · simp -implicitDefEqProofs (maxSteps := 4000000) (disch := omega) only [go_sem, go_sem_proc, dr, Nat.min_def, ↓Nat.reduceBEq, ↓Nat.reduceEqDiff, ↓Nat.reduceLT, ↓Nat.reduceLeDiff, ↓Int.reduceEq, ↓Int.reduceLT, ↓Int.reduceLE, ↓reduceIte, tellSt, hx, hlen, pv_eq, hO]
          first | done | ((repeat' split) <;> (change _ = true; kernel_rfl))
      | true =>
        have rel := rel_form rx false
        cases hw : waysN (inN false x) with
        | none =>
          rw [hw] at rel
          have rel : (formN false x).2 = false := rel
          have hN := Norm_no sx cx rel
          have hRN := RNorm_no sx rx hw
          have hS := SamePred_spec (p := .mk 0 0 0 valZ true []) (.mk (by simp [bz, valZ]) (by simp) (by simp)) (q := .mk 0 0 0 valZ true []) (.mk (by simp [bz, valZ]) (by simp) (by simp))
          rw [same_refl] at hS
          simp only [mk_kind, mk_col, mk_op, mk_val, mk_nil, mk_list, valZ, bl_none, pl_nil] at hS
          clear rel hw sx rx cx
          cases b
          · cases kb
            · simp -implicitDefEqProofs (maxSteps := 4000000) (disch := omega) only [go_sem, go_sem_proc, dr, Nat.min_def, ↓Nat.reduceBEq, ↓Nat.reduceEqDiff, ↓Nat.reduceLT, ↓Nat.reduceLeDiff, ↓Int.reduceEq, ↓Int.reduceLT, ↓Int.reduceLE, ↓reduceIte, tellSt, hx, hlen, pv_eq, hO, hN, hRN, hK, hRK, hS]
              first | done | ((repeat' split) <;> (change _ = true; kernel_rfl))
            · simp -implicitDefEqProofs (maxSteps := 4000000) (disch := omega) only [go_sem, go_sem_proc, dr, Nat.min_def, ↓Nat.reduceBEq, ↓Nat.reduceEqDiff, ↓Nat.reduceLT, ↓Nat.reduceLeDiff, ↓Int.reduceEq, ↓Int.reduceLT, ↓Int.reduceLE, ↓reduceIte, tellSt, hx, hlen, pv_eq, hO, hN, hRN, hK, hRK, hS]
              first | done | ((repeat' split) <;> (change _ = true; kernel_rfl))
          · cases kb
            · simp -implicitDefEqProofs (maxSteps := 4000000) (disch := omega) only [go_sem, go_sem_proc, dr, Nat.min_def, ↓Nat.reduceBEq, ↓Nat.reduceEqDiff, ↓Nat.reduceLT, ↓Nat.reduceLeDiff, ↓Int.reduceEq, ↓Int.reduceLT, ↓Int.reduceLE, ↓reduceIte, tellSt, hx, hlen, pv_eq, hO, hN, hRN, hK, hRK, hS]
              first | done | ((repeat' split) <;> (change _ = true; kernel_rfl))
            · simp -implicitDefEqProofs (maxSteps := 4000000) (disch := omega) only [go_sem, go_sem_proc, dr, Nat.min_def, ↓Nat.reduceBEq, ↓Nat.reduceEqDiff, ↓Nat.reduceLT, ↓Nat.reduceLeDiff, ↓Int.reduceEq, ↓Int.reduceLT, ↓Int.reduceLE, ↓reduceIte, tellSt, hx, hlen, pv_eq, hO, hN, hRN, hK, hRK, hS]
              first | done | ((repeat' split) <;> (change _ = true; kernel_rfl))
        | some A =>
          rw [hw] at rel
          obtain ⟨rel1, rel2⟩ : (formN false x).2 = true ∧ SL A = (formN false x).1.map (·.2) := rel
          have hN := Norm_yes sx cx rel1
          have hRN := RNorm_yes sx rx hw
          have g := form_Gd sx false
          have gl := form_len (p := x) false rel1
          have hS := SamePred_spec (orN_Sm (A := (formN false x).1) (by omega) (fun c hc => by have := g.ok rel1 c hc; omega) g.sm) (refOr_Sm (ways_wb A hw) (ways_Sm (in_Sm sx rx false) A hw))
          rw [or_same rel2] at hS
          simp only [orN, refOr, mk_kind, mk_col, mk_op, mk_val, mk_nil, mk_list, valZ, bl_none, pl_false] at hS
          generalize (((formN false x).1.map andN).map Prd.still).map Prd.pv = MB at hN hS
          clear rel1 rel2 hw sx rx cx g gl
          rcases RnLeaf_cases A with ⟨e1, e2⟩ | ⟨MA, e1, e2⟩
          · rw [e1] at hRN
            rw [e2] at hS
            clear e1 e2
            cases b <;> cases kb
            all_goals
              simp -implicitDefEqProofs (maxSteps := 4000000) (disch := omega) only [go_sem, go_sem_proc, dr, Nat.min_def, ↓Nat.reduceBEq, ↓Nat.reduceEqDiff, ↓Nat.reduceLT, ↓Nat.reduceLeDiff, ↓Int.reduceEq, ↓Int.reduceLT, ↓Int.reduceLE, ↓reduceIte, tellSt, hx, hlen, pv_eq, hO, hN, hRN, hK, hRK, hS]
              first | done | ((repeat' split) <;> (change _ = true; kernel_rfl))
          · rw [e1] at hRN
            rw [e2] at hS
            clear e1 e2
            cases b <;> cases kb
            all_goals
              simp -implicitDefEqProofs (maxSteps := 4000000) (disch := omega) only [go_sem, go_sem_proc, dr, Nat.min_def, ↓Nat.reduceBEq, ↓Nat.reduceEqDiff, ↓Nat.reduceLT, ↓Nat.reduceLeDiff, ↓Int.reduceEq, ↓Int.reduceLT, ↓Int.reduceLE, ↓reduceIte, tellSt, hx, hlen, pv_eq, hO, hN, hRN, hK, hRK, hS]
              first | done | ((repeat' split) <;> (change _ = true; kernel_rfl))
    · simp -implicitDefEqProofs (maxSteps := 4000000) (disch := omega) only [go_sem, go_sem_proc, dr, Nat.min_def, ↓Nat.reduceBEq, ↓Nat.reduceEqDiff, ↓Nat.reduceLT, ↓Nat.reduceLeDiff, ↓Int.reduceEq, ↓Int.reduceLT, ↓Int.reduceLE, ↓reduceIte, tellSt, h8]
  · have vp : p.pv = [.int .i64 p.kind, .int .i64 p.col, .int .i64 p.op, .bool p.val.null, .int .i64 p.val.kind, .int .i64 p.val.int, bl p.val.bytes, .sl 8 (pa.pv :: pr.map Prd.pv)] := by rw [pv_eq, hpn, hpl]; first | rfl | (rw [pl_some]; rfl)
    have vq : q.pv = [.int .i64 q.kind, .int .i64 q.col, .int .i64 q.op, .bool q.val.null, .int .i64 q.val.kind, .int .i64 q.val.int, bl q.val.bytes, .sl 8 (qa.pv :: qr.map Prd.pv)] := by rw [pv_eq, hqn, hql]; first | rfl | (rw [pl_some]; rfl)
    rw [hpl, plr_cons] at hP
    rw [hql, plr_cons] at hQ
    simp only [List.map_cons] at hP
    simp only [List.map_cons] at hQ
    rw [vp, vq] at va
    rw [vq] at vn
    obtain ⟨b1, hb1⟩ : ∃ b1, (sharesLeaf (bl p.val.bytes) || (pa.pv.any sharesP || (pr.map Prd.pv).any fun x => x.any sharesP)) = b1 := ⟨_, rfl⟩
    obtain ⟨b2, hb2⟩ : ∃ b2, (sharesLeaf (bl q.val.bytes) || (qa.pv.any sharesP || (qr.map Prd.pv).any fun x => x.any sharesP)) = b2 := ⟨_, rfl⟩
    clear hpl hql hpn hqn
    simp -implicitDefEqProofs (maxSteps := 4000000) (disch := omega) only [go_sem, go_sem_proc, dr, Nat.min_def, ↓Nat.reduceBEq, ↓Nat.reduceEqDiff, ↓Nat.reduceLT, ↓Nat.reduceLeDiff, ↓Int.reduceEq, ↓Int.reduceLT, ↓Int.reduceLE, ↓reduceIte, Schema_spec, hP, hQ, hb1, hb2]
    refine ⟨by ((repeat' split) <;> (change _ = true; kernel_rfl)), ?_⟩
    refine runs_for (tellSt (b1 || b2) ((schemaN n).map Col.pv) [p, q, a, z]) 4 ?_ ?_ ?_
    · cases b1 <;> cases b2 <;> simp -implicitDefEqProofs (maxSteps := 4000000) (disch := omega) only [go_sem, go_sem_proc, dr, Nat.min_def, ↓Nat.reduceBEq, ↓Nat.reduceEqDiff, ↓Nat.reduceLT, ↓Nat.reduceLeDiff, ↓Int.reduceEq, ↓Int.reduceLT, ↓Int.reduceLE, ↓reduceIte, tellSt, vp, vq, va, vn]
    · clear vp vq va vn hP hQ hb1 hb2
      intro i hi
      generalize hLL : [p, q, a, z] = L at hL
      have hlen : L.length = 4 := by rw [← hLL]; rfl
      clear hLL
      obtain ⟨x, hx, hxm, _⟩ := take_get (show i < L.length by omega)
      obtain ⟨sx, rx, cx⟩ := hL x hxm
      clear hL
      have hO := OkPred_spec hs.2 sx
      have hK := Key_spec sx cx
      have hRK := RKey_spec sx rx
      rw [keys_same rx] at hRK
      generalize keyN x = K at hK hRK
      obtain ⟨kk, kb, hkk⟩ : ∃ (kk : Int) (kb : Bool), keyPV K = .tup [.int .i64 kk, .bool kb] := by cases K <;> exact ⟨_, _, rfl⟩
      rw [hkk] at hK hRK
      generalize okP (schemaN n) x = ob at hO
      obtain ⟨b, hb⟩ : ∃ b, (b1 || b2) = b := ⟨_, rfl⟩
      rw [hb]
      clear hb hkk
      cases ob with
      | false =>
        cases b
        · simp -implicitDefEqProofs (maxSteps := 4000000) (disch := omega) only [go_sem, go_sem_proc, dr, Nat.min_def, ↓Nat.reduceBEq, ↓Nat.reduceEqDiff, ↓Nat.reduceLT, ↓Nat.reduceLeDiff, ↓Int.reduceEq, ↓Int.reduceLT, ↓Int.reduceLE, ↓reduceIte, tellSt, hx, hlen, pv_eq, hO]
          first | done | ((repeat' split) <;> (change _ = true; kernel_rfl))
        · simp -implicitDefEqProofs (maxSteps := 4000000) (disch := omega) only [go_sem, go_sem_proc, dr, Nat.min_def, ↓Nat.reduceBEq, ↓Nat.reduceEqDiff, ↓Nat.reduceLT, ↓Nat.reduceLeDiff, ↓Int.reduceEq, ↓Int.reduceLT, ↓Int.reduceLE, ↓reduceIte, tellSt, hx, hlen, pv_eq, hO]
          first | done | ((repeat' split) <;> (change _ = true; kernel_rfl))
      | true =>
        have rel := rel_form rx false
        cases hw : waysN (inN false x) with
        | none =>
          rw [hw] at rel
          have rel : (formN false x).2 = false := rel
          have hN := Norm_no sx cx rel
          have hRN := RNorm_no sx rx hw
          have hS := SamePred_spec (p := .mk 0 0 0 valZ true []) (.mk (by simp [bz, valZ]) (by simp) (by simp)) (q := .mk 0 0 0 valZ true []) (.mk (by simp [bz, valZ]) (by simp) (by simp))
          rw [same_refl] at hS
          simp only [mk_kind, mk_col, mk_op, mk_val, mk_nil, mk_list, valZ, bl_none, pl_nil] at hS
          clear rel hw sx rx cx
          cases b
          · cases kb
            · simp -implicitDefEqProofs (maxSteps := 4000000) (disch := omega) only [go_sem, go_sem_proc, dr, Nat.min_def, ↓Nat.reduceBEq, ↓Nat.reduceEqDiff, ↓Nat.reduceLT, ↓Nat.reduceLeDiff, ↓Int.reduceEq, ↓Int.reduceLT, ↓Int.reduceLE, ↓reduceIte, tellSt, hx, hlen, pv_eq, hO, hN, hRN, hK, hRK, hS]
              first | done | ((repeat' split) <;> (change _ = true; kernel_rfl))
            · simp -implicitDefEqProofs (maxSteps := 4000000) (disch := omega) only [go_sem, go_sem_proc, dr, Nat.min_def, ↓Nat.reduceBEq, ↓Nat.reduceEqDiff, ↓Nat.reduceLT, ↓Nat.reduceLeDiff, ↓Int.reduceEq, ↓Int.reduceLT, ↓Int.reduceLE, ↓reduceIte, tellSt, hx, hlen, pv_eq, hO, hN, hRN, hK, hRK, hS]
              first | done | ((repeat' split) <;> (change _ = true; kernel_rfl))
          · cases kb
            · simp -implicitDefEqProofs (maxSteps := 4000000) (disch := omega) only [go_sem, go_sem_proc, dr, Nat.min_def, ↓Nat.reduceBEq, ↓Nat.reduceEqDiff, ↓Nat.reduceLT, ↓Nat.reduceLeDiff, ↓Int.reduceEq, ↓Int.reduceLT, ↓Int.reduceLE, ↓reduceIte, tellSt, hx, hlen, pv_eq, hO, hN, hRN, hK, hRK, hS]
              first | done | ((repeat' split) <;> (change _ = true; kernel_rfl))
            · simp -implicitDefEqProofs (maxSteps := 4000000) (disch := omega) only [go_sem, go_sem_proc, dr, Nat.min_def, ↓Nat.reduceBEq, ↓Nat.reduceEqDiff, ↓Nat.reduceLT, ↓Nat.reduceLeDiff, ↓Int.reduceEq, ↓Int.reduceLT, ↓Int.reduceLE, ↓reduceIte, tellSt, hx, hlen, pv_eq, hO, hN, hRN, hK, hRK, hS]
              first | done | ((repeat' split) <;> (change _ = true; kernel_rfl))
        | some A =>
          rw [hw] at rel
          obtain ⟨rel1, rel2⟩ : (formN false x).2 = true ∧ SL A = (formN false x).1.map (·.2) := rel
          have hN := Norm_yes sx cx rel1
          have hRN := RNorm_yes sx rx hw
          have g := form_Gd sx false
          have gl := form_len (p := x) false rel1
          have hS := SamePred_spec (orN_Sm (A := (formN false x).1) (by omega) (fun c hc => by have := g.ok rel1 c hc; omega) g.sm) (refOr_Sm (ways_wb A hw) (ways_Sm (in_Sm sx rx false) A hw))
          rw [or_same rel2] at hS
          simp only [orN, refOr, mk_kind, mk_col, mk_op, mk_val, mk_nil, mk_list, valZ, bl_none, pl_false] at hS
          generalize (((formN false x).1.map andN).map Prd.still).map Prd.pv = MB at hN hS
          clear rel1 rel2 hw sx rx cx g gl
          rcases RnLeaf_cases A with ⟨e1, e2⟩ | ⟨MA, e1, e2⟩
          · rw [e1] at hRN
            rw [e2] at hS
            clear e1 e2
            cases b <;> cases kb
            all_goals
              simp -implicitDefEqProofs (maxSteps := 4000000) (disch := omega) only [go_sem, go_sem_proc, dr, Nat.min_def, ↓Nat.reduceBEq, ↓Nat.reduceEqDiff, ↓Nat.reduceLT, ↓Nat.reduceLeDiff, ↓Int.reduceEq, ↓Int.reduceLT, ↓Int.reduceLE, ↓reduceIte, tellSt, hx, hlen, pv_eq, hO, hN, hRN, hK, hRK, hS]
              first | done | ((repeat' split) <;> (change _ = true; kernel_rfl))
          · rw [e1] at hRN
            rw [e2] at hS
            clear e1 e2
            cases b <;> cases kb
            all_goals
              simp -implicitDefEqProofs (maxSteps := 4000000) (disch := omega) only [go_sem, go_sem_proc, dr, Nat.min_def, ↓Nat.reduceBEq, ↓Nat.reduceEqDiff, ↓Nat.reduceLT, ↓Nat.reduceLeDiff, ↓Int.reduceEq, ↓Int.reduceLT, ↓Int.reduceLE, ↓reduceIte, tellSt, hx, hlen, pv_eq, hO, hN, hRN, hK, hRK, hS]
              first | done | ((repeat' split) <;> (change _ = true; kernel_rfl))
    · simp -implicitDefEqProofs (maxSteps := 4000000) (disch := omega) only [go_sem, go_sem_proc, dr, Nat.min_def, ↓Nat.reduceBEq, ↓Nat.reduceEqDiff, ↓Nat.reduceLT, ↓Nat.reduceLeDiff, ↓Int.reduceEq, ↓Int.reduceLT, ↓Int.reduceLE, ↓reduceIte, tellSt, h8]
end Go.Proofs.Ytljjgccgmloajaa.D
