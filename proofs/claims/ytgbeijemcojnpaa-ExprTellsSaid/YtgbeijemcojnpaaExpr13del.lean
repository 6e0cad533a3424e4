/- ExprTells: the walk to where each op is looked at (del). -/
import Derived.Test.YtgbeijemcojnpaaExpr13
namespace Go.Proofs.Ytgbeijemcojnpaa.D
open Go Go.Den
set_option linter.unusedSimpArgs false
set_option linter.unusedVariables false
set_option maxRecDepth 20000
set_option maxHeartbeats 8000000
theorem tells_del {n at' turn : Int} {l : List Int} {raw : List OpN} {a : Nat} {p : Prd}  (ha : at' % 64 = a) (hl : raw.length ≤ 20)
    (hG : dw E 6 [.agg [.sl 3 ((schemaN n).map Col.pv)], .sl 1 (ints .i64 l), .int .i64 a] [] = some (.agg (rpv ⟨3, true, [], p, true, [], true, [], 0, true, []⟩), []))
    (hst : ∀ (fb : Bool) (x : OpN), x = turnX turn ⟨3, true, [], p, true, [], true, [], 0, true, []⟩ → ∀ i : Nat, i ≤ (⟨3, true, [], p, true, [], true, [], 0, true, []⟩ :: x :: raw : List OpN).length → Runs E 3 0 bodyT (stT fb n at' l raw ⟨3, true, [], p, true, [], true, [], 0, true, []⟩ (⟨3, true, [], p, true, [], true, [], 0, true, []⟩ :: x :: raw) i) (roundQ 0 (E.lv 3 (firstRid bodyT)) (fun i => stT fb n at' l raw ⟨3, true, [], p, true, [], true, [], 0, true, []⟩ (⟨3, true, [], p, true, [], true, [], 0, true, []⟩ :: x :: raw) i) (fun a' => a' ≤ (⟨3, true, [], p, true, [], true, [], 0, true, []⟩ :: x :: raw : List OpN).length ∧ (⟨3, true, [], p, true, [], true, [], 0, true, []⟩ :: x :: raw : List OpN).length - a' < (⟨3, true, [], p, true, [], true, [], 0, true, []⟩ :: x :: raw : List OpN).length - i) restT))
    (hpn : p.nil = true) :
    dw E 3 [.sl 14 (raw.map OpN.pv), .int .i64 n, .sl 1 (ints .i64 l), .int .i64 at', .int .i64 turn] [] = some (.bool true, []) := by
  have hSc := Schema_spec (n := n)
  have hlen := schemaN_length n
  have hpl := pl_rows hpn
  clear hpn
  have h8 : turn % 8 = 0 ∨ turn % 8 = 1 ∨ turn % 8 = 2 ∨ turn % 8 = 3 ∨ turn % 8 = 4 ∨ turn % 8 = 5 ∨ turn % 8 = 6 ∨ turn % 8 = 7 := by omega
  rcases hpl with ⟨h2, h3⟩ | ⟨R', h2, h3⟩ <;> simp only [rpv, rl_nil, rl_row, h3, List.map_nil, List.map_cons] at hG
  · skip
    obtain ⟨f1, hf1⟩ : ∃ f1, sharesLeaf (bl p.val.bytes) = f1 := ⟨_, rfl⟩
    rcases h8 with h8 | h8 | h8 | h8 | h8 | h8 | h8 | h8
    · have hx : turnX turn ⟨3, true, [], p, true, [], true, [], 0, true, []⟩ = ⟨turn / 8 % 8, true, [], p, true, [], true, [], 0, true, []⟩ := by unfold turnX; simp only [h8, ↓reduceIte, Int.reduceEq]
      have hst := fun fb => hst fb _ hx.symm
      clear hx
      refine dw_in (fn := Try.f3) rfl body3 (by simp) ?_
      simp -implicitDefEqProofs (maxSteps := 4000000) (disch := omega) only [go_sem, go_sem_proc, dr, Nat.min_def, ↓Nat.reduceBEq, ↓Nat.reduceEqDiff, ↓Nat.reduceLT, ↓Nat.reduceLeDiff, ↓Int.reduceEq, ↓Int.reduceLT, ↓Int.reduceLE, ↓reduceIte, hSc, hG, ha, h8, sn, bb, hf1]
      refine runs_any _ (fun i => raw.length + 2 - i) 0 (fun i => i ≤ raw.length + 2) (Nat.zero_le _) ?_ (hst f1)
      cases f1 <;> simp -implicitDefEqProofs (maxSteps := 4000000) (disch := omega) only [go_sem, go_sem_proc, dr, Nat.min_def, ↓Nat.reduceBEq, ↓Nat.reduceEqDiff, ↓Nat.reduceLT, ↓Nat.reduceLeDiff, ↓Int.reduceEq, ↓Int.reduceLT, ↓Int.reduceLE, ↓reduceIte, stT, s11, m11, OpN.pv, ls, h2] <;> (first | done | rfl)
    · have hx : turnX turn ⟨3, true, [], p, true, [], true, [], 0, true, []⟩ = ⟨3, true, [], p, true, [], true, [], turn / 8 % 16 - 3, true, []⟩ := by unfold turnX; simp only [h8, ↓reduceIte, Int.reduceEq]
      have hst := fun fb => hst fb _ hx.symm
      clear hx
      refine dw_in (fn := Try.f3) rfl body3 (by simp) ?_
      simp -implicitDefEqProofs (maxSteps := 4000000) (disch := omega) only [go_sem, go_sem_proc, dr, Nat.min_def, ↓Nat.reduceBEq, ↓Nat.reduceEqDiff, ↓Nat.reduceLT, ↓Nat.reduceLeDiff, ↓Int.reduceEq, ↓Int.reduceLT, ↓Int.reduceLE, ↓reduceIte, hSc, hG, ha, h8, sn, bb, hf1]
      refine runs_any _ (fun i => raw.length + 2 - i) 0 (fun i => i ≤ raw.length + 2) (Nat.zero_le _) ?_ (hst f1)
      cases f1 <;> simp -implicitDefEqProofs (maxSteps := 4000000) (disch := omega) only [go_sem, go_sem_proc, dr, Nat.min_def, ↓Nat.reduceBEq, ↓Nat.reduceEqDiff, ↓Nat.reduceLT, ↓Nat.reduceLeDiff, ↓Int.reduceEq, ↓Int.reduceLT, ↓Int.reduceLE, ↓reduceIte, stT, s11, m11, OpN.pv, ls, h2] <;> (first | done | rfl)
    · have hx : turnX turn ⟨3, true, [], p, true, [], true, [], 0, true, []⟩ = ⟨3, true, [], p, true, [], false, [] ++ [turn / 8 % 16 - 3], 0, true, []⟩ := by unfold turnX; simp only [h8, ↓reduceIte, Int.reduceEq]
      have hst := fun fb => hst fb _ hx.symm
      clear hx
      refine dw_in (fn := Try.f3) rfl body3 (by simp) ?_
      simp -implicitDefEqProofs (maxSteps := 4000000) (disch := omega) only [go_sem, go_sem_proc, dr, Nat.min_def, ↓Nat.reduceBEq, ↓Nat.reduceEqDiff, ↓Nat.reduceLT, ↓Nat.reduceLeDiff, ↓Int.reduceEq, ↓Int.reduceLT, ↓Int.reduceLE, ↓reduceIte, hSc, hG, ha, h8, sn, bb, hf1]
      refine runs_any _ (fun i => raw.length + 2 - i) 0 (fun i => i ≤ raw.length + 2) (Nat.zero_le _) ?_ (hst f1)
      cases f1 <;> simp -implicitDefEqProofs (maxSteps := 4000000) (disch := omega) only [go_sem, go_sem_proc, dr, Nat.min_def, ↓Nat.reduceBEq, ↓Nat.reduceEqDiff, ↓Nat.reduceLT, ↓Nat.reduceLeDiff, ↓Int.reduceEq, ↓Int.reduceLT, ↓Int.reduceLE, ↓reduceIte, stT, s11, m11, OpN.pv, ls, h2] <;> (first | done | rfl)
    · have hx : turnX turn ⟨3, true, [], p, true, [], true, [], 0, true, []⟩ = ⟨3, true, [], p, true, [], true, [], 0, false, [] ++ [⟨turn / 8 % 8, turn / 64 % 8 - 1⟩]⟩ := by unfold turnX; simp only [h8, ↓reduceIte, Int.reduceEq]
      have hst := fun fb => hst fb _ hx.symm
      clear hx
      refine dw_in (fn := Try.f3) rfl body3 (by simp) ?_
      simp -implicitDefEqProofs (maxSteps := 4000000) (disch := omega) only [go_sem, go_sem_proc, dr, Nat.min_def, ↓Nat.reduceBEq, ↓Nat.reduceEqDiff, ↓Nat.reduceLT, ↓Nat.reduceLeDiff, ↓Int.reduceEq, ↓Int.reduceLT, ↓Int.reduceLE, ↓reduceIte, hSc, hG, ha, h8, sn, bb, hf1]
      refine runs_any _ (fun i => raw.length + 2 - i) 0 (fun i => i ≤ raw.length + 2) (Nat.zero_le _) ?_ (hst f1)
      cases f1 <;> simp -implicitDefEqProofs (maxSteps := 4000000) (disch := omega) only [go_sem, go_sem_proc, dr, Nat.min_def, ↓Nat.reduceBEq, ↓Nat.reduceEqDiff, ↓Nat.reduceLT, ↓Nat.reduceLeDiff, ↓Int.reduceEq, ↓Int.reduceLT, ↓Int.reduceLE, ↓reduceIte, stT, s11, m11, OpN.pv, ls, h2] <;> (first | done | rfl)
    · have hx : turnX turn ⟨3, true, [], p, true, [], true, [], 0, true, []⟩ = ⟨3, true, [], p, false, [] ++ [⟨turn / 8 % 8 - 1, decide (turn / 64 % 2 = 1), ⟨decide (turn / 512 % 2 = 1), turn / 128 % 4, 0, none⟩⟩], true, [], 0, true, []⟩ := by unfold turnX; simp only [h8, ↓reduceIte, Int.reduceEq]
      have hst := fun fb => hst fb _ hx.symm
      clear hx
      refine dw_in (fn := Try.f3) rfl body3 (by simp) ?_
      simp -implicitDefEqProofs (maxSteps := 4000000) (disch := omega) only [go_sem, go_sem_proc, dr, Nat.min_def, ↓Nat.reduceBEq, ↓Nat.reduceEqDiff, ↓Nat.reduceLT, ↓Nat.reduceLeDiff, ↓Int.reduceEq, ↓Int.reduceLT, ↓Int.reduceLE, ↓reduceIte, hSc, hG, ha, h8, sn, bb, hf1]
      refine runs_any _ (fun i => raw.length + 2 - i) 0 (fun i => i ≤ raw.length + 2) (Nat.zero_le _) ?_ (hst f1)
      cases f1 <;> simp -implicitDefEqProofs (maxSteps := 4000000) (disch := omega) only [go_sem, go_sem_proc, dr, Nat.min_def, ↓Nat.reduceBEq, ↓Nat.reduceEqDiff, ↓Nat.reduceLT, ↓Nat.reduceLeDiff, ↓Int.reduceEq, ↓Int.reduceLT, ↓Int.reduceLE, ↓reduceIte, stT, s11, m11, OpN.pv, ls, h2] <;> (first | done | rfl)
    · have hx : turnX turn ⟨3, true, [], p, true, [], true, [], 0, true, []⟩ = ⟨3, true, [], zP, true, [], true, [], 0, true, []⟩ := by unfold turnX; simp only [h8, ↓reduceIte, Int.reduceEq]
      have hst := fun fb => hst fb _ hx.symm
      clear hx
      refine dw_in (fn := Try.f3) rfl body3 (by simp) ?_
      simp -implicitDefEqProofs (maxSteps := 4000000) (disch := omega) only [go_sem, go_sem_proc, dr, Nat.min_def, ↓Nat.reduceBEq, ↓Nat.reduceEqDiff, ↓Nat.reduceLT, ↓Nat.reduceLeDiff, ↓Int.reduceEq, ↓Int.reduceLT, ↓Int.reduceLE, ↓reduceIte, hSc, hG, ha, h8, sn, bb, hf1]
      refine runs_any _ (fun i => raw.length + 2 - i) 0 (fun i => i ≤ raw.length + 2) (Nat.zero_le _) ?_ (hst f1)
      cases f1 <;> simp -implicitDefEqProofs (maxSteps := 4000000) (disch := omega) only [go_sem, go_sem_proc, dr, Nat.min_def, ↓Nat.reduceBEq, ↓Nat.reduceEqDiff, ↓Nat.reduceLT, ↓Nat.reduceLeDiff, ↓Int.reduceEq, ↓Int.reduceLT, ↓Int.reduceLE, ↓reduceIte, stT, s11, m11, OpN.pv, ls, h2] <;> (first | done | rfl)
    · have hx : turnX turn ⟨3, true, [], p, true, [], true, [], 0, true, []⟩ = ⟨3, false, [] ++ [⟨false, 1, 0, none⟩], p, true, [], true, [], 0, true, []⟩ := by unfold turnX; simp only [h8, ↓reduceIte, Int.reduceEq]
      have hst := fun fb => hst fb _ hx.symm
      clear hx
      refine dw_in (fn := Try.f3) rfl body3 (by simp) ?_
      simp -implicitDefEqProofs (maxSteps := 4000000) (disch := omega) only [go_sem, go_sem_proc, dr, Nat.min_def, ↓Nat.reduceBEq, ↓Nat.reduceEqDiff, ↓Nat.reduceLT, ↓Nat.reduceLeDiff, ↓Int.reduceEq, ↓Int.reduceLT, ↓Int.reduceLE, ↓reduceIte, hSc, hG, ha, h8, sn, bb, hf1]
      refine runs_any _ (fun i => raw.length + 2 - i) 0 (fun i => i ≤ raw.length + 2) (Nat.zero_le _) ?_ (hst f1)
      cases f1 <;> simp -implicitDefEqProofs (maxSteps := 4000000) (disch := omega) only [go_sem, go_sem_proc, dr, Nat.min_def, ↓Nat.reduceBEq, ↓Nat.reduceEqDiff, ↓Nat.reduceLT, ↓Nat.reduceLeDiff, ↓Int.reduceEq, ↓Int.reduceLT, ↓Int.reduceLE, ↓reduceIte, stT, s11, m11, OpN.pv, ls, h2] <;> (first | done | rfl)
    · have hx : turnX turn ⟨3, true, [], p, true, [], true, [], 0, true, []⟩ = ⟨3, true, [], p, true, [], true, [], 0, true, []⟩ := by unfold turnX; simp only [h8, ↓reduceIte, Int.reduceEq]
      have hst := fun fb => hst fb _ hx.symm
      clear hx
      refine dw_in (fn := Try.f3) rfl body3 (by simp) ?_
      simp -implicitDefEqProofs (maxSteps := 4000000) (disch := omega) only [go_sem, go_sem_proc, dr, Nat.min_def, ↓Nat.reduceBEq, ↓Nat.reduceEqDiff, ↓Nat.reduceLT, ↓Nat.reduceLeDiff, ↓Int.reduceEq, ↓Int.reduceLT, ↓Int.reduceLE, ↓reduceIte, hSc, hG, ha, h8, sn, bb, hf1]
      refine runs_any _ (fun i => raw.length + 2 - i) 0 (fun i => i ≤ raw.length + 2) (Nat.zero_le _) ?_ (hst f1)
      cases f1 <;> simp -implicitDefEqProofs (maxSteps := 4000000) (disch := omega) only [go_sem, go_sem_proc, dr, Nat.min_def, ↓Nat.reduceBEq, ↓Nat.reduceEqDiff, ↓Nat.reduceLT, ↓Nat.reduceLeDiff, ↓Int.reduceEq, ↓Int.reduceLT, ↓Int.reduceLE, ↓reduceIte, stT, s11, m11, OpN.pv, ls, h2] <;> (first | done | rfl)
  · skip
    obtain ⟨f1, hf1⟩ : ∃ f1, sharesLeaf (bl p.val.bytes) = f1 := ⟨_, rfl⟩
    obtain ⟨f2, hf2⟩ : ∃ f2, (R'.any fun x => x.any sharesP) = f2 := ⟨_, rfl⟩
    rcases h8 with h8 | h8 | h8 | h8 | h8 | h8 | h8 | h8
    · have hx : turnX turn ⟨3, true, [], p, true, [], true, [], 0, true, []⟩ = ⟨turn / 8 % 8, true, [], p, true, [], true, [], 0, true, []⟩ := by unfold turnX; simp only [h8, ↓reduceIte, Int.reduceEq]
      have hst := fun fb => hst fb _ hx.symm
      clear hx
      refine dw_in (fn := Try.f3) rfl body3 (by simp) ?_
      simp -implicitDefEqProofs (maxSteps := 4000000) (disch := omega) only [go_sem, go_sem_proc, dr, Nat.min_def, ↓Nat.reduceBEq, ↓Nat.reduceEqDiff, ↓Nat.reduceLT, ↓Nat.reduceLeDiff, ↓Int.reduceEq, ↓Int.reduceLT, ↓Int.reduceLE, ↓reduceIte, hSc, hG, ha, h8, sn, bb, hf1, hf2]
      refine runs_any _ (fun i => raw.length + 2 - i) 0 (fun i => i ≤ raw.length + 2) (Nat.zero_le _) ?_ (hst (f1 || f2))
      cases f1 <;> cases f2 <;> simp -implicitDefEqProofs (maxSteps := 4000000) (disch := omega) only [go_sem, go_sem_proc, dr, Nat.min_def, ↓Nat.reduceBEq, ↓Nat.reduceEqDiff, ↓Nat.reduceLT, ↓Nat.reduceLeDiff, ↓Int.reduceEq, ↓Int.reduceLT, ↓Int.reduceLE, ↓reduceIte, stT, s11, m11, OpN.pv, ls, h2] <;> (first | done | rfl)
    · have hx : turnX turn ⟨3, true, [], p, true, [], true, [], 0, true, []⟩ = ⟨3, true, [], p, true, [], true, [], turn / 8 % 16 - 3, true, []⟩ := by unfold turnX; simp only [h8, ↓reduceIte, Int.reduceEq]
      have hst := fun fb => hst fb _ hx.symm
      clear hx
      refine dw_in (fn := Try.f3) rfl body3 (by simp) ?_
      simp -implicitDefEqProofs (maxSteps := 4000000) (disch := omega) only [go_sem, go_sem_proc, dr, Nat.min_def, ↓Nat.reduceBEq, ↓Nat.reduceEqDiff, ↓Nat.reduceLT, ↓Nat.reduceLeDiff, ↓Int.reduceEq, ↓Int.reduceLT, ↓Int.reduceLE, ↓reduceIte, hSc, hG, ha, h8, sn, bb, hf1, hf2]
      refine runs_any _ (fun i => raw.length + 2 - i) 0 (fun i => i ≤ raw.length + 2) (Nat.zero_le _) ?_ (hst (f1 || f2))
      cases f1 <;> cases f2 <;> simp -implicitDefEqProofs (maxSteps := 4000000) (disch := omega) only [go_sem, go_sem_proc, dr, Nat.min_def, ↓Nat.reduceBEq, ↓Nat.reduceEqDiff, ↓Nat.reduceLT, ↓Nat.reduceLeDiff, ↓Int.reduceEq, ↓Int.reduceLT, ↓Int.reduceLE, ↓reduceIte, stT, s11, m11, OpN.pv, ls, h2] <;> (first | done | rfl)
    · have hx : turnX turn ⟨3, true, [], p, true, [], true, [], 0, true, []⟩ = ⟨3, true, [], p, true, [], false, [] ++ [turn / 8 % 16 - 3], 0, true, []⟩ := by unfold turnX; simp only [h8, ↓reduceIte, Int.reduceEq]
      have hst := fun fb => hst fb _ hx.symm
      clear hx
      refine dw_in (fn := Try.f3) rfl body3 (by simp) ?_
      simp -implicitDefEqProofs (maxSteps := 4000000) (disch := omega) only [go_sem, go_sem_proc, dr, Nat.min_def, ↓Nat.reduceBEq, ↓Nat.reduceEqDiff, ↓Nat.reduceLT, ↓Nat.reduceLeDiff, ↓Int.reduceEq, ↓Int.reduceLT, ↓Int.reduceLE, ↓reduceIte, hSc, hG, ha, h8, sn, bb, hf1, hf2]
      refine runs_any _ (fun i => raw.length + 2 - i) 0 (fun i => i ≤ raw.length + 2) (Nat.zero_le _) ?_ (hst (f1 || f2))
      cases f1 <;> cases f2 <;> simp -implicitDefEqProofs (maxSteps := 4000000) (disch := omega) only [go_sem, go_sem_proc, dr, Nat.min_def, ↓Nat.reduceBEq, ↓Nat.reduceEqDiff, ↓Nat.reduceLT, ↓Nat.reduceLeDiff, ↓Int.reduceEq, ↓Int.reduceLT, ↓Int.reduceLE, ↓reduceIte, stT, s11, m11, OpN.pv, ls, h2] <;> (first | done | rfl)
    · have hx : turnX turn ⟨3, true, [], p, true, [], true, [], 0, true, []⟩ = ⟨3, true, [], p, true, [], true, [], 0, false, [] ++ [⟨turn / 8 % 8, turn / 64 % 8 - 1⟩]⟩ := by unfold turnX; simp only [h8, ↓reduceIte, Int.reduceEq]
      have hst := fun fb => hst fb _ hx.symm
      clear hx
      refine dw_in (fn := Try.f3) rfl body3 (by simp) ?_
      simp -implicitDefEqProofs (maxSteps := 4000000) (disch := omega) only [go_sem, go_sem_proc, dr, Nat.min_def, ↓Nat.reduceBEq, ↓Nat.reduceEqDiff, ↓Nat.reduceLT, ↓Nat.reduceLeDiff, ↓Int.reduceEq, ↓Int.reduceLT, ↓Int.reduceLE, ↓reduceIte, hSc, hG, ha, h8, sn, bb, hf1, hf2]
      refine runs_any _ (fun i => raw.length + 2 - i) 0 (fun i => i ≤ raw.length + 2) (Nat.zero_le _) ?_ (hst (f1 || f2))
      cases f1 <;> cases f2 <;> simp -implicitDefEqProofs (maxSteps := 4000000) (disch := omega) only [go_sem, go_sem_proc, dr, Nat.min_def, ↓Nat.reduceBEq, ↓Nat.reduceEqDiff, ↓Nat.reduceLT, ↓Nat.reduceLeDiff, ↓Int.reduceEq, ↓Int.reduceLT, ↓Int.reduceLE, ↓reduceIte, stT, s11, m11, OpN.pv, ls, h2] <;> (first | done | rfl)
    · have hx : turnX turn ⟨3, true, [], p, true, [], true, [], 0, true, []⟩ = ⟨3, true, [], p, false, [] ++ [⟨turn / 8 % 8 - 1, decide (turn / 64 % 2 = 1), ⟨decide (turn / 512 % 2 = 1), turn / 128 % 4, 0, none⟩⟩], true, [], 0, true, []⟩ := by unfold turnX; simp only [h8, ↓reduceIte, Int.reduceEq]
      have hst := fun fb => hst fb _ hx.symm
      clear hx
      refine dw_in (fn := Try.f3) rfl body3 (by simp) ?_
      simp -implicitDefEqProofs (maxSteps := 4000000) (disch := omega) only [go_sem, go_sem_proc, dr, Nat.min_def, ↓Nat.reduceBEq, ↓Nat.reduceEqDiff, ↓Nat.reduceLT, ↓Nat.reduceLeDiff, ↓Int.reduceEq, ↓Int.reduceLT, ↓Int.reduceLE, ↓reduceIte, hSc, hG, ha, h8, sn, bb, hf1, hf2]
      refine runs_any _ (fun i => raw.length + 2 - i) 0 (fun i => i ≤ raw.length + 2) (Nat.zero_le _) ?_ (hst (f1 || f2))
      cases f1 <;> cases f2 <;> simp -implicitDefEqProofs (maxSteps := 4000000) (disch := omega) only [go_sem, go_sem_proc, dr, Nat.min_def, ↓Nat.reduceBEq, ↓Nat.reduceEqDiff, ↓Nat.reduceLT, ↓Nat.reduceLeDiff, ↓Int.reduceEq, ↓Int.reduceLT, ↓Int.reduceLE, ↓reduceIte, stT, s11, m11, OpN.pv, ls, h2] <;> (first | done | rfl)
    · have hx : turnX turn ⟨3, true, [], p, true, [], true, [], 0, true, []⟩ = ⟨3, true, [], zP, true, [], true, [], 0, true, []⟩ := by unfold turnX; simp only [h8, ↓reduceIte, Int.reduceEq]
      have hst := fun fb => hst fb _ hx.symm
      clear hx
      refine dw_in (fn := Try.f3) rfl body3 (by simp) ?_
      simp -implicitDefEqProofs (maxSteps := 4000000) (disch := omega) only [go_sem, go_sem_proc, dr, Nat.min_def, ↓Nat.reduceBEq, ↓Nat.reduceEqDiff, ↓Nat.reduceLT, ↓Nat.reduceLeDiff, ↓Int.reduceEq, ↓Int.reduceLT, ↓Int.reduceLE, ↓reduceIte, hSc, hG, ha, h8, sn, bb, hf1, hf2]
      refine runs_any _ (fun i => raw.length + 2 - i) 0 (fun i => i ≤ raw.length + 2) (Nat.zero_le _) ?_ (hst (f1 || f2))
      cases f1 <;> cases f2 <;> simp -implicitDefEqProofs (maxSteps := 4000000) (disch := omega) only [go_sem, go_sem_proc, dr, Nat.min_def, ↓Nat.reduceBEq, ↓Nat.reduceEqDiff, ↓Nat.reduceLT, ↓Nat.reduceLeDiff, ↓Int.reduceEq, ↓Int.reduceLT, ↓Int.reduceLE, ↓reduceIte, stT, s11, m11, OpN.pv, ls, h2] <;> (first | done | rfl)
    · have hx : turnX turn ⟨3, true, [], p, true, [], true, [], 0, true, []⟩ = ⟨3, false, [] ++ [⟨false, 1, 0, none⟩], p, true, [], true, [], 0, true, []⟩ := by unfold turnX; simp only [h8, ↓reduceIte, Int.reduceEq]
      have hst := fun fb => hst fb _ hx.symm
      clear hx
      refine dw_in (fn := Try.f3) rfl body3 (by simp) ?_
      simp -implicitDefEqProofs (maxSteps := 4000000) (disch := omega) only [go_sem, go_sem_proc, dr, Nat.min_def, ↓Nat.reduceBEq, ↓Nat.reduceEqDiff, ↓Nat.reduceLT, ↓Nat.reduceLeDiff, ↓Int.reduceEq, ↓Int.reduceLT, ↓Int.reduceLE, ↓reduceIte, hSc, hG, ha, h8, sn, bb, hf1, hf2]
      refine runs_any _ (fun i => raw.length + 2 - i) 0 (fun i => i ≤ raw.length + 2) (Nat.zero_le _) ?_ (hst (f1 || f2))
      cases f1 <;> cases f2 <;> simp -implicitDefEqProofs (maxSteps := 4000000) (disch := omega) only [go_sem, go_sem_proc, dr, Nat.min_def, ↓Nat.reduceBEq, ↓Nat.reduceEqDiff, ↓Nat.reduceLT, ↓Nat.reduceLeDiff, ↓Int.reduceEq, ↓Int.reduceLT, ↓Int.reduceLE, ↓reduceIte, stT, s11, m11, OpN.pv, ls, h2] <;> (first | done | rfl)
    · have hx : turnX turn ⟨3, true, [], p, true, [], true, [], 0, true, []⟩ = ⟨3, true, [], p, true, [], true, [], 0, true, []⟩ := by unfold turnX; simp only [h8, ↓reduceIte, Int.reduceEq]
      have hst := fun fb => hst fb _ hx.symm
      clear hx
      refine dw_in (fn := Try.f3) rfl body3 (by simp) ?_
      simp -implicitDefEqProofs (maxSteps := 4000000) (disch := omega) only [go_sem, go_sem_proc, dr, Nat.min_def, ↓Nat.reduceBEq, ↓Nat.reduceEqDiff, ↓Nat.reduceLT, ↓Nat.reduceLeDiff, ↓Int.reduceEq, ↓Int.reduceLT, ↓Int.reduceLE, ↓reduceIte, hSc, hG, ha, h8, sn, bb, hf1, hf2]
      refine runs_any _ (fun i => raw.length + 2 - i) 0 (fun i => i ≤ raw.length + 2) (Nat.zero_le _) ?_ (hst (f1 || f2))
      cases f1 <;> cases f2 <;> simp -implicitDefEqProofs (maxSteps := 4000000) (disch := omega) only [go_sem, go_sem_proc, dr, Nat.min_def, ↓Nat.reduceBEq, ↓Nat.reduceEqDiff, ↓Nat.reduceLT, ↓Nat.reduceLeDiff, ↓Int.reduceEq, ↓Int.reduceLT, ↓Int.reduceLE, ↓reduceIte, stT, s11, m11, OpN.pv, ls, h2] <;> (first | done | rfl)
end Go.Proofs.Ytgbeijemcojnpaa.D
