/- NormTwice: what the law comes to. -/
import Derived.Test.YtgnjnkmjcahkeaaR6c
import Derived.Test.YtgnjnkmjcahkeaaNormTw
namespace Go.Proofs.Ytgnjnkmjcahkeaa.D
open Go Go.Den
set_option linter.unusedSimpArgs false
set_option linter.unusedVariables false
set_option maxRecDepth 20000
set_option maxHeartbeats 8000000
theorem NormTwice_spec {n : Int} {l : List Int} : dw E 9 [.int .i64 n, .sl 1 (ints .i64 l)] [] = some (.bool true, []) := by
  refine dw_in (fn := Try.f9) rfl body9 (by simp) ?_
  have hs : 1 ≤ (schemaN n).length ∧ (schemaN n).length ≤ 20 := ⟨schemaN_pos n, by have := schemaN_length n; omega⟩
  have hP := Pred_spec (s := schemaN n) (l := l) hs 3 0 (by decide) (by decide)
  have hpn := predN_nil (schemaN n) l 3 0
  have sp := predN_Sm (schemaN n) l 3 0
  have wp := predN_Wf (schemaN n) l 3 0
  have hC : cnt (predN (schemaN n) l 3 0) ≤ 64 := cnt_predN (schemaN n) l 3 0
  simp only [cast0, cast3] at hP
  generalize predN (schemaN n) l 3 0 = p at hP hpn sp wp hC
  have h8 := awake8
  have g := form_Gd sp false
  have ha : ∀ c ∈ (formN false p).1, ∀ q ∈ c.2, Atom q := form_atoms wp false
  have hlen := form_len (p := p) false
  cases hok : (formN false p).2 with
  | false =>
    have hN := Norm_no sp (by omega) hok
    clear g ha hlen wp sp hC
    rcases hpl : p.list with _ | ⟨a, r⟩
    · rw [hpl, plr_nil] at hP
      rw [hpn, hpl, pl_nil] at hN
      clear hpl hpn
      simp -implicitDefEqProofs (maxSteps := 4000000) (disch := omega) only [go_sem, go_sem_proc, dr, Nat.min_def, ↓Nat.reduceBEq, ↓Nat.reduceEqDiff, ↓Nat.reduceLT, ↓Nat.reduceLeDiff, ↓Int.reduceEq, ↓Int.reduceLT, ↓Int.reduceLE, ↓reduceIte, Schema_spec, hP, hN, h8]
    · rw [hpl, plr_cons] at hP
      rw [hpn, hpl, pl_some] at hN
      simp only [List.map_cons] at hN hP
      clear hpl hpn
      simp -implicitDefEqProofs (maxSteps := 4000000) (disch := omega) only [go_sem, go_sem_proc, dr, Nat.min_def, ↓Nat.reduceBEq, ↓Nat.reduceEqDiff, ↓Nat.reduceLT, ↓Nat.reduceLeDiff, ↓Int.reduceEq, ↓Int.reduceLT, ↓Int.reduceLE, ↓reduceIte, Schema_spec, hP, hN, h8]
  | true =>
    have hN := Norm_yes sp (by omega) hok
    have hlen := hlen hok
    have gok := g.ok hok
    have gsm := g.sm
    generalize (formN false p).1 = A at hN hlen gok gsm ha
    obtain ⟨B, hB1, hB2⟩ := form_twice hlen ha gok
    have oS := orN_Sm (A := A) (by omega) (fun c hc => by have := gok c hc; omega) gsm
    have oC := orN_cnt hlen gok fun c hc q hq => (ha c hc q hq).ct
    have hN2 := Norm_yes oS oC (by rw [hB1])
    have hO := OkPred_spec (s := schemaN n) hs.2 oS
    have hSm := SamePred_spec oS oS
    rw [same_refl] at hSm
    rw [hB1] at hN2
    have hB3 : (B.map andN).map Prd.still = (A.map andN).map Prd.still := by
      unfold orN at hB2
      injection hB2
    dsimp only at hN2
    rw [hB3] at hN2
    obtain ⟨b, hb⟩ : ∃ b, okP (schemaN n) (orN A) = b := ⟨_, rfl⟩
    rw [hb] at hO
    simp only [orN, Prd.kind, Prd.col, Prd.op, Prd.val, Prd.nil, Prd.list, valZ, bl_none, pl_false] at hN2 hO hSm
    clear hb hB1 hB2 hB3 oS oC gok gsm ha hlen wp hC g
    generalize (A.map andN).map Prd.still = M at hN hN2 hO hSm
    rcases hpl : p.list with _ | ⟨a, r⟩
    · rw [hpl, plr_nil] at hP
      rw [hpn, hpl, pl_nil] at hN
      clear hpl hpn
      cases b
      · simp -implicitDefEqProofs (maxSteps := 4000000) (disch := omega) only [go_sem, go_sem_proc, dr, Nat.min_def, ↓Nat.reduceBEq, ↓Nat.reduceEqDiff, ↓Nat.reduceLT, ↓Nat.reduceLeDiff, ↓Int.reduceEq, ↓Int.reduceLT, ↓Int.reduceLE, ↓reduceIte, Schema_spec, hP, hN, h8, hO]
      · simp -implicitDefEqProofs (maxSteps := 4000000) (disch := omega) only [go_sem, go_sem_proc, dr, Nat.min_def, ↓Nat.reduceBEq, ↓Nat.reduceEqDiff, ↓Nat.reduceLT, ↓Nat.reduceLeDiff, ↓Int.reduceEq, ↓Int.reduceLT, ↓Int.reduceLE, ↓reduceIte, Schema_spec, hP, hN, h8, hO, hN2, hSm]
    · rw [hpl, plr_cons] at hP
      rw [hpn, hpl, pl_some] at hN
      simp only [List.map_cons] at hN hP
      clear hpl hpn
      cases b
      · simp -implicitDefEqProofs (maxSteps := 4000000) (disch := omega) only [go_sem, go_sem_proc, dr, Nat.min_def, ↓Nat.reduceBEq, ↓Nat.reduceEqDiff, ↓Nat.reduceLT, ↓Nat.reduceLeDiff, ↓Int.reduceEq, ↓Int.reduceLT, ↓Int.reduceLE, ↓reduceIte, Schema_spec, hP, hN, h8, hO]
      · simp -implicitDefEqProofs (maxSteps := 4000000) (disch := omega) only [go_sem, go_sem_proc, dr, Nat.min_def, ↓Nat.reduceBEq, ↓Nat.reduceEqDiff, ↓Nat.reduceLT, ↓Nat.reduceLeDiff, ↓Int.reduceEq, ↓Int.reduceLT, ↓Int.reduceLE, ↓reduceIte, Schema_spec, hP, hN, h8, hO, hN2, hSm]
end Go.Proofs.Ytgnjnkmjcahkeaa.D
