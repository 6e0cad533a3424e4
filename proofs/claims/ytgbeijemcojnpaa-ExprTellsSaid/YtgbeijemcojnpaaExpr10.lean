/- Programs of numbers; a schema of numbers is right. -/
import Derived.Test.YtgbeijemcojnpaaExpr8w
import Derived.Test.YtgbeijemcojnpaaExpr9
namespace Go.Proofs.Ytgbeijemcojnpaa.D
open Go Go.Den
set_option linter.unusedSimpArgs false
set_option linter.unusedVariables false
set_option maxRecDepth 20000
set_option maxHeartbeats 8000000
theorem plr_leaf (p : Prd) : plr 35 p.list = .nils ∨ ∃ L, plr 35 p.list = .nr 35 8 L := by
  unfold plr
  split
  · exact .inl rfl
  · exact .inr ⟨_, rfl⟩
theorem sf_nils (sz : Nat) : sf true sz [] = .nils := rfl
theorem sf_row (sz : Nat) (L : List (List PV)) : sf false sz L = .sl sz L := rfl
structure GenOk (m : Int) (l : List Int) (i : Nat) (o : OpN) : Prop where
  w : dw E 6 [.agg [.sl 3 ((schemaN m).map Col.pv)], .sl 1 (ints .i64 l), .int .i64 i] [] = some (.agg (rpv o), [])
  f : ∃ p, GenF (schemaN m) p o ∧ PredOk (schemaN m) p
theorem GenOp_spec (m : Int) (l : List Int) (i : Nat) (hi : i ≤ 100) : ∃ o, GenOk m l i o := by
  have hs : 1 ≤ (schemaN m).length ∧ (schemaN m).length ≤ 20 := ⟨schemaN_pos m, by have := schemaN_length m; omega⟩
  have hP := Pred_spec (s := schemaN m) (l := l) hs 3 (i % 7) (by decide) (by simp; omega)
  rw [show (((i % 7 : Nat) : Int)) = (i : Int) % 7 by omega] at hP
  obtain ⟨n, hn⟩ : ∃ n, (l = [] ∧ n = 0) ∨ ∃ x, 0 < l.length ∧ l[i % l.length]? = some x ∧ (x + (i : Int) * 7919 + 9223372036854775808) % 18446744073709551616 - 9223372036854775808 = n := by
    rcases Nat.eq_zero_or_pos l.length with h | h
    · exact ⟨0, .inl ⟨List.length_eq_zero_iff.1 h, rfl⟩⟩
    · exact ⟨_, .inr ⟨_, h, List.getElem?_eq_getElem (Nat.mod_lt _ h), rfl⟩⟩
  rcases (show n / 8 % 4 = 0 ∨ 0 < n / 8 % 4 by omega) with h4 | h4
  · obtain ⟨o, ho, hw⟩ := genop_walk hs hi hP hn (.inl ⟨h4, rfl⟩) (plr_leaf _)
    exact ⟨o, hw, _, ho, keyP_ok _ _⟩
  · obtain ⟨o, ho, hw⟩ := genop_walk hs hi hP hn (.inr ⟨h4, rfl⟩) (plr_leaf _)
    exact ⟨o, hw, _, ho, predN_ok _ _ _⟩
noncomputable def genOp (m : Int) (l : List Int) (i : Nat) : OpN := if h : i ≤ 100 then Classical.choose (GenOp_spec m l i h) else ⟨0, true, [], zP, true, [], true, [], 0, true, []⟩
theorem genOp_ok (m : Int) (l : List Int) (i : Nat) (h : i ≤ 100) : GenOk m l i (genOp m l i) := by
  unfold genOp
  rw [dif_pos h]
  exact Classical.choose_spec (GenOp_spec m l i h)
theorem genOp_right (m : Int) (l : List Int) (i : Nat) (h : i ≤ 100) : exprB (schemaN m) (genOp m l i) = true ∧ OpOk (genOp m l i) ∧ OpBy (genOp m l i) := by
  obtain ⟨p, hf, hp⟩ := (genOp_ok m l i h).f
  exact GenF_ok hf hp
noncomputable def genProg (m : Int) (l : List Int) (b k : Nat) : List OpN := (List.range k).map fun j => genOp m l (b + j)
theorem genProg_succ (m : Int) (l : List Int) (b k : Nat) : genProg m l b (k + 1) = genProg m l b k ++ [genOp m l (b + k)] := by simp [genProg, List.range_succ]
theorem genProg_len (m : Int) (l : List Int) (b k : Nat) : (genProg m l b k).length = k := by simp [genProg]
theorem pl_list {p : Prd} (h : p.nil = true) : (p.list = [] ∧ pl p.nil p.list = .nils ∧ plr 35 p.list = .nils) ∨ ∃ a r, p.list = a :: r ∧ pl p.nil p.list = .sl 8 ((a :: r).map Prd.pv) ∧ plr 35 p.list = .nr 35 8 ((a :: r).map Prd.pv) := by
  rw [h]
  cases hl : p.list with
  | nil => exact .inl ⟨rfl, rfl, rfl⟩
  | cons a r => exact .inr ⟨a, r, rfl, pl_some _ _ _, rfl⟩
def pgSt (m n b : Int) (l : List Int) (rows : List (List PV)) (i : Nat) : St := ⟨[(1, .sl 1 (ints .i64 l)), (2, .int .i64 n), (3, .pb 1048579 0), (7, .h 2097600), (8, .int .i64 i)], [(1048579, some ⟨true, .box [.sl 3 ((schemaN m).map Col.pv)]⟩), (2097600, some ⟨true, .row 39 14 rows⟩)], 1⟩
theorem GenProgram_spec {m : Int} {l : List Int} {n : Int} {b k : Nat} (hb : n / 8 % 64 = b) (hk : (k : Int) = (if n % 8 < 6 then n % 8 else 6)) :
    dw E 10 [.agg [.sl 3 ((schemaN m).map Col.pv)], .sl 1 (ints .i64 l), .int .i64 n] [] = some (.nr 39 14 ((genProg m l b k).map OpN.pv), []) := by
  have hk6 : k ≤ 6 := by split at hk <;> omega
  have hk8 : (k : Int) ≤ n % 8 := by split at hk <;> omega
  have hend : n % 8 ≤ k ∨ 6 ≤ k := by split at hk <;> omega
  have hb63 : b ≤ 63 := by omega
  clear hk
  refine dw_in (fn := Try.f10) rfl body10 (by simp) ?_
  simp -implicitDefEqProofs (maxSteps := 4000000) (disch := omega) only [go_sem, go_sem_proc, dr, Nat.min_def, ↓Nat.reduceBEq, ↓Nat.reduceEqDiff, ↓Nat.reduceLT, ↓Nat.reduceLeDiff, ↓Int.reduceEq, ↓Int.reduceLT, ↓Int.reduceLE, ↓reduceIte, hb]
  refine runs_for (fun i => pgSt m n b l ((genProg m l b i).map OpN.pv) i) k ?_ (fun i hi => ?_) ?_
  · simp -implicitDefEqProofs (maxSteps := 4000000) (disch := omega) only [go_sem, go_sem_proc, dr, Nat.min_def, ↓Nat.reduceBEq, ↓Nat.reduceEqDiff, ↓Nat.reduceLT, ↓Nat.reduceLeDiff, ↓Int.reduceEq, ↓Int.reduceLT, ↓Int.reduceLE, ↓reduceIte, pgSt, genProg, List.range_zero, List.map_nil]
  · have hG := genOp_ok m l (b + i) (by omega)
    obtain ⟨hw, p, hf, hp⟩ := hG
    rw [genProg_succ, List.map_append, List.map_cons, List.map_nil]
    have hlen := genProg_len m l b i
    have hin : (i : Int) < n % 8 := by omega
    have hi6 : i < 6 := by omega
    have hpn := hp.nil
    have hbi : ((b + i : Nat) : Int) = (b : Int) + i := by omega
    rw [hbi] at hw
    have hrl : ((genProg m l b i).map OpN.pv).length = i := by simp [genProg]
    generalize (genProg m l b i).map OpN.pv = rows at hrl ⊢
    generalize genOp m l (b + i) = o at hw hf
    clear hp hk6 hk8 hend hi
    have hpl := pl_list hpn
    clear hpn
    cases hf with
    | ins x => simp -implicitDefEqProofs (maxSteps := 4000000) (disch := omega) only [go_sem, go_sem_proc, dr, Nat.min_def, ↓Nat.reduceBEq, ↓Nat.reduceEqDiff, ↓Nat.reduceLT, ↓Nat.reduceLeDiff, ↓Int.reduceEq, ↓Int.reduceLT, ↓Int.reduceLE, ↓reduceIte, pgSt, sand7, sand63, hb, hrl, hw, rpv, rl_nil, rl_row, zP, Prd.kind, Prd.col, Prd.op, Prd.val, Prd.nil, Prd.list, valZ, plr_nil, bl_none, OpN.pv, sf_nils, sf_row, pl_nil, List.map_nil] <;> (first | done | ((repeat' split) <;> (change _ = true; kernel_rfl)))
    | upd c q x ad hc hq had => rcases hpl with ⟨h1, h2, h3⟩ | ⟨a, r, h1, h2, h3⟩ <;> simp -implicitDefEqProofs (maxSteps := 4000000) (disch := omega) only [go_sem, go_sem_proc, dr, Nat.min_def, ↓Nat.reduceBEq, ↓Nat.reduceEqDiff, ↓Nat.reduceLT, ↓Nat.reduceLeDiff, ↓Int.reduceEq, ↓Int.reduceLT, ↓Int.reduceLE, ↓reduceIte, pgSt, sand7, sand63, hb, hrl, hw, rpv, rl_nil, rl_row, h2, h3, OpN.pv, sf_nils, sf_row, List.map_nil] <;> (first | done | ((repeat' split) <;> (change _ = true; kernel_rfl)))
    | del => rcases hpl with ⟨h1, h2, h3⟩ | ⟨a, r, h1, h2, h3⟩ <;> simp -implicitDefEqProofs (maxSteps := 4000000) (disch := omega) only [go_sem, go_sem_proc, dr, Nat.min_def, ↓Nat.reduceBEq, ↓Nat.reduceEqDiff, ↓Nat.reduceLT, ↓Nat.reduceLeDiff, ↓Int.reduceEq, ↓Int.reduceLT, ↓Int.reduceLE, ↓reduceIte, pgSt, sand7, sand63, hb, hrl, hw, rpv, rl_nil, rl_row, h2, h3, OpN.pv, sf_nils, sf_row, List.map_nil] <;> (first | done | ((repeat' split) <;> (change _ = true; kernel_rfl)))
    | scan c hc => rcases hpl with ⟨h1, h2, h3⟩ | ⟨a, r, h1, h2, h3⟩ <;> simp -implicitDefEqProofs (maxSteps := 4000000) (disch := omega) only [go_sem, go_sem_proc, dr, Nat.min_def, ↓Nat.reduceBEq, ↓Nat.reduceEqDiff, ↓Nat.reduceLT, ↓Nat.reduceLeDiff, ↓Int.reduceEq, ↓Int.reduceLT, ↓Int.reduceLE, ↓reduceIte, pgSt, sand7, sand63, hb, hrl, hw, rpv, rl_nil, rl_row, h2, h3, OpN.pv, sf_nils, sf_row, List.map_nil] <;> (first | done | ((repeat' split) <;> (change _ = true; kernel_rfl)))
    | agg c g k hc hg hk => rcases hpl with ⟨h1, h2, h3⟩ | ⟨a, r, h1, h2, h3⟩ <;> simp -implicitDefEqProofs (maxSteps := 4000000) (disch := omega) only [go_sem, go_sem_proc, dr, Nat.min_def, ↓Nat.reduceBEq, ↓Nat.reduceEqDiff, ↓Nat.reduceLT, ↓Nat.reduceLeDiff, ↓Int.reduceEq, ↓Int.reduceLT, ↓Int.reduceLE, ↓reduceIte, pgSt, sand7, sand63, hb, hrl, hw, rpv, rl_nil, rl_row, h2, h3, OpN.pv, sf_nils, sf_row, List.map_nil] <;> (first | done | ((repeat' split) <;> (change _ = true; kernel_rfl)))
    | roll => simp -implicitDefEqProofs (maxSteps := 4000000) (disch := omega) only [go_sem, go_sem_proc, dr, Nat.min_def, ↓Nat.reduceBEq, ↓Nat.reduceEqDiff, ↓Nat.reduceLT, ↓Nat.reduceLeDiff, ↓Int.reduceEq, ↓Int.reduceLT, ↓Int.reduceLE, ↓reduceIte, pgSt, sand7, sand63, hb, hrl, hw, rpv, rl_nil, rl_row, zP, Prd.kind, Prd.col, Prd.op, Prd.val, Prd.nil, Prd.list, valZ, plr_nil, bl_none, OpN.pv, sf_nils, sf_row, pl_nil, List.map_nil] <;> (first | done | ((repeat' split) <;> (change _ = true; kernel_rfl)))
  · have hlen := genProg_len m l b k
    rcases hend with h | h
    · by_cases h6 : k < 6
      · simp -implicitDefEqProofs (maxSteps := 4000000) (disch := omega) only [go_sem, go_sem_proc, dr, Nat.min_def, ↓Nat.reduceBEq, ↓Nat.reduceEqDiff, ↓Nat.reduceLT, ↓Nat.reduceLeDiff, ↓Int.reduceEq, ↓Int.reduceLT, ↓Int.reduceLE, ↓reduceIte, pgSt, sand7]
      · have h6' : 6 ≤ k := by omega
        simp -implicitDefEqProofs (maxSteps := 4000000) (disch := omega) only [go_sem, go_sem_proc, dr, Nat.min_def, ↓Nat.reduceBEq, ↓Nat.reduceEqDiff, ↓Nat.reduceLT, ↓Nat.reduceLeDiff, ↓Int.reduceEq, ↓Int.reduceLT, ↓Int.reduceLE, ↓reduceIte, pgSt, sand7]
    · by_cases h6 : (k : Int) < n % 8
      · simp -implicitDefEqProofs (maxSteps := 4000000) (disch := omega) only [go_sem, go_sem_proc, dr, Nat.min_def, ↓Nat.reduceBEq, ↓Nat.reduceEqDiff, ↓Nat.reduceLT, ↓Nat.reduceLeDiff, ↓Int.reduceEq, ↓Int.reduceLT, ↓Int.reduceLE, ↓reduceIte, pgSt, sand7]
      · have h6' : n % 8 ≤ k := by omega
        simp -implicitDefEqProofs (maxSteps := 4000000) (disch := omega) only [go_sem, go_sem_proc, dr, Nat.min_def, ↓Nat.reduceBEq, ↓Nat.reduceEqDiff, ↓Nat.reduceLT, ↓Nat.reduceLeDiff, ↓Int.reduceEq, ↓Int.reduceLT, ↓Int.reduceLE, ↓reduceIte, pgSt, sand7]
end Go.Proofs.Ytgbeijemcojnpaa.D
