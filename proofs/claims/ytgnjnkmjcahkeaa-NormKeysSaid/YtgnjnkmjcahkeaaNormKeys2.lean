/- NormKeys: what the law comes to. -/
import Derived.Test.YtgnjnkmjcahkeaaNormKeys
namespace Go.Proofs.Ytgnjnkmjcahkeaa.D
open Go Go.Den
set_option linter.unusedSimpArgs false
set_option linter.unusedVariables false
set_option maxRecDepth 20000
set_option maxHeartbeats 8000000
theorem key_all (key : Int) : keyN (.mk 4 0 0 valZ false [cmp0 1 key, tru]) = some key := by rfl
theorem key_any (key other : Int) : keyN (.mk 5 0 0 valZ false [cmp0 1 key, cmp0 1 other]) = none := by rfl
theorem key_not (key : Int) : keyN (.mk 6 0 0 valZ false [cmp0 1 key]) = none := by rfl
theorem key_both (key : Int) {p : Prd} {m n : Nat} (h : Fine m n (formN false p)) (hm : m ≤ 32) (hn : n ≤ 31) : keyN (.mk 4 0 0 valZ false [cmp0 1 key, p]) = if (formN false p).1.length = 1 then some key else none := by
  have e1 : formN false (.mk 4 0 0 valZ false [cmp0 1 key, p]) = bothN ([(false, [(cmp0 1 key).still])], true) (formN false p) := by
    rw [form_mk, if_neg (by decide), if_neg (by decide), if_neg (by decide), if_pos rfl]
    rfl
  generalize formN false p = Y at h e1
  obtain ⟨A, a⟩ := Y
  have ha : a = true := h.ok
  subst ha
  have hl : A.length ≤ m := h.len
  have e2 : bothN ([(false, [(cmp0 1 key).still])], true) (A, true) = (A.map fun y => (false, (cmp0 1 key).still :: y.2), true) := by
    have ec : crossN [(false, [(cmp0 1 key).still])] A = A.map fun y => (false, (cmp0 1 key).still :: y.2) := by simp [crossN]
    unfold bothN
    rw [if_pos (by simp; omega)]
    dsimp only
    rw [ec]
    congr 1
    simp only [okLen, List.all_eq_true, decide_eq_true_eq, List.mem_map]
    rintro c ⟨y, hy, rfl⟩
    have := h.each y hy
    simp only [List.length_cons]; omega
  unfold keyN
  rw [e1, e2]
  rcases A with _ | ⟨c, _ | ⟨c2, r⟩⟩
  · rfl
  · rfl
  · have h1 : ¬ (c :: c2 :: r).length = 1 := by simp
    simp only [h1, if_false]
    rfl
theorem NormKeys_spec {n key other : Int} {l : List Int} : dw E 10 [.int .i64 n, .sl 1 (ints .i64 l), .int .i64 key, .int .i64 other] [] = some (.bool true, []) := by
  refine dw_in (fn := Try.f10) rfl body10 (by simp) ?_
  have hs : 1 ≤ (schemaN n).length ∧ (schemaN n).length ≤ 20 := ⟨schemaN_pos n, by have := schemaN_length n; omega⟩
  have hP := Pred_spec (s := schemaN n) (l := l) hs 2 0 (by decide) (by decide)
  have hpn := predN_nil (schemaN n) l 2 0
  have sp := predN_Sm (schemaN n) l 2 0
  have hF := predN_two (schemaN n) l 0
  have hC : cnt (predN (schemaN n) l 2 0) ≤ 16 := cnt_predN (schemaN n) l 2 0
  simp only [cast0, cast2] at hP
  generalize predN (schemaN n) l 2 0 = p at hP hpn sp hF hC
  have k1 := Key_spec (p := .mk 4 0 0 valZ false [cmp0 1 key, tru]) (.mk (by simp [bz, valZ]) (by simp) (fun q hq => by simp at hq; rcases hq with rfl | rfl; exact cmp0_Sm _ _; exact tru_Sm)) (by rw [show cnt (.mk 4 0 0 valZ false [cmp0 1 key, tru]) = 3 from rfl]; decide)
  have k2 := Key_spec (p := .mk 5 0 0 valZ false [cmp0 1 key, cmp0 1 other]) (.mk (by simp [bz, valZ]) (by simp) (fun q hq => by simp at hq; rcases hq with rfl | rfl <;> exact cmp0_Sm _ _)) (by rw [show cnt (.mk 5 0 0 valZ false [cmp0 1 key, cmp0 1 other]) = 3 from rfl]; decide)
  have k3 := Key_spec (p := .mk 6 0 0 valZ false [cmp0 1 key]) (.mk (by simp [bz, valZ]) (by simp) (fun q hq => by simp at hq; subst hq; exact cmp0_Sm _ _)) (by rw [show cnt (.mk 6 0 0 valZ false [cmp0 1 key]) = 2 from rfl]; decide)
  have k4 := Key_spec (p := .mk 4 0 0 valZ false [cmp0 1 key, p]) (.mk (by simp [bz, valZ]) (by simp) (fun q hq => by simp at hq; rcases hq with rfl | rfl; exact cmp0_Sm _ _; exact sp)) (by rw [cnt_mk, cnts_cons, cnts_cons, cnts_nil]; have : cnt (cmp0 1 key) = 1 := rfl; omega)
  rw [key_all] at k1
  rw [key_any] at k2
  rw [key_not] at k3
  rw [key_both key hF (by omega) (by omega)] at k4
  have hN := Norm_yes sp (by omega) hF.ok
  have hlen := hF.len
  generalize (formN false p).1 = A at hN k4 hlen
  simp only [Prd.kind, Prd.col, Prd.op, Prd.val, Prd.nil, Prd.list, pl_false, List.map_cons, List.map_nil, cmp0_pv, tru_pv, keyPV, valZ, bl_none] at k1 k2 k3 k4
  have h8 := awake8
  clear hF hC sp
  rw [pv_eq] at k4
  rcases hpl : p.list with _ | ⟨a, r⟩
  · rw [hpl, plr_nil] at hP
    rw [hpn, hpl, pl_nil] at hN k4
    clear hpl hpn
    by_cases h1 : A.length = 1
    · rw [if_pos h1] at k4
      simp only [keyPV] at k4
      simp -implicitDefEqProofs (maxSteps := 4000000) (disch := omega) only [go_sem, go_sem_proc, dr, Nat.min_def, ↓Nat.reduceBEq, ↓Nat.reduceEqDiff, ↓Nat.reduceLT, ↓Nat.reduceLeDiff, ↓Int.reduceEq, ↓Int.reduceLT, ↓Int.reduceLE, ↓reduceIte, Schema_spec, hP, k1, k2, k3, k4, hN, h8, eq_true h1]
    · rw [if_neg h1] at k4
      simp only [keyPV] at k4
      simp -implicitDefEqProofs (maxSteps := 4000000) (disch := omega) only [go_sem, go_sem_proc, dr, Nat.min_def, ↓Nat.reduceBEq, ↓Nat.reduceEqDiff, ↓Nat.reduceLT, ↓Nat.reduceLeDiff, ↓Int.reduceEq, ↓Int.reduceLT, ↓Int.reduceLE, ↓reduceIte, Schema_spec, hP, k1, k2, k3, k4, hN, h8, h1]
  · rw [hpl, plr_cons] at hP
    rw [hpn, hpl, pl_some] at hN k4
    simp only [List.map_cons] at hN k4 hP
    clear hpl hpn
    by_cases h1 : A.length = 1
    · rw [if_pos h1] at k4
      simp only [keyPV] at k4
      simp -implicitDefEqProofs (maxSteps := 4000000) (disch := omega) only [go_sem, go_sem_proc, dr, Nat.min_def, ↓Nat.reduceBEq, ↓Nat.reduceEqDiff, ↓Nat.reduceLT, ↓Nat.reduceLeDiff, ↓Int.reduceEq, ↓Int.reduceLT, ↓Int.reduceLE, ↓reduceIte, Schema_spec, hP, k1, k2, k3, k4, hN, h8, eq_true h1]
    · rw [if_neg h1] at k4
      simp only [keyPV] at k4
      simp -implicitDefEqProofs (maxSteps := 4000000) (disch := omega) only [go_sem, go_sem_proc, dr, Nat.min_def, ↓Nat.reduceBEq, ↓Nat.reduceEqDiff, ↓Nat.reduceLT, ↓Nat.reduceLeDiff, ↓Int.reduceEq, ↓Int.reduceLT, ↓Int.reduceLE, ↓reduceIte, Schema_spec, hP, k1, k2, k3, k4, hN, h8, h1]
end Go.Proofs.Ytgnjnkmjcahkeaa.D
