/- ZoneSafe: what the law comes to. -/
import Derived.Test.YtgocfiehbgoacaaZone5
namespace Go.Proofs.Ytgocfiehbgoacaa.D
open Go Go.Den
set_option linter.unusedSimpArgs false
set_option linter.unusedVariables false
set_option maxRecDepth 20000
set_option maxHeartbeats 8000000
def safeSt (b8 : Bool) (X : List (List PV)) (p : Prd) (l10 : PV) (m10 : List (Nat × Option Ent)) (may : Bool) (n i : Nat) : St :=
  ⟨[(10, .pb 1048586 0), (11, .bool may), (36, if b8 then .sl 1 X else .h 2099456), (37, .int .i64 n), (38, .int .i64 i)],
   (1048586, some ⟨true, .box [.int .i64 p.kind, .int .i64 p.col, .int .i64 p.op, .bool p.val.null, .int .i64 p.val.kind, .int .i64 p.val.int, bl p.val.bytes, l10]⟩) :: (m10 ++
   (if b8 then [] else [(2099456, some ⟨true, .row 45 1 X⟩)])), 1⟩
theorem ZoneSafe_spec {n : Int} {rows l : List Int} : dw E 6 [.int .i64 n, .sl 1 (ints .i64 rows), .sl 1 (ints .i64 l)] [] = some (.bool true, []) := by
  refine dw_in (fn := Try.f6) rfl body6 (by simp) ?_
  have hs : 1 ≤ (schemaN n).length ∧ (schemaN n).length ≤ 20 := ⟨schemaN_pos n, by have := schemaN_length n; omega⟩
  have hP := Pred_spec (s := schemaN n) (l := l) hs 4 0 (by decide) (by decide)
  have hpn := predN_nil (schemaN n) l 4 0
  have sp := predN_Sm (schemaN n) l 4 0
  have rp := predN_RW hs.1 l 4 0
  have hC : cnt (predN (schemaN n) l 4 0) ≤ 256 := cnt_predN (schemaN n) l 4 0
  simp only [cast0, cast4] at hP
  generalize predN (schemaN n) l 4 0 = p at hP hpn sp hC rp
  have h9 := awake9
  have hR := Rows_spec (s := schemaN n) (l := rows) hs
  have hKR := rowsZ_KR (n := n) rows
  have hRR := rowsZ_RR (n := n) rows
  have hXl := rowsZ_len (schemaN n) rows
  generalize rowsZ (schemaN n) rows = X at hR hKR hRR hXl
  have hO := Of_spec (s := schemaN n) (rows := X) hs.2 hRR
  have hzl : (zonesN (schemaN n) X).length = (schemaN n).length := by simp [zonesN]
  have hM := May_spec (zs := zonesN (schemaN n) X) (count := X.length) (p := p) (by omega) sp (by omega)
  have hsafe : ∀ r ∈ X, p.eval r = 1 → mayN (zonesN (schemaN n) X) X.length p = true := fun r hr h => may_safe hKR hr rp h
  have hE : ∀ r ∈ X, dw E 20 [.agg [.int .i64 p.kind, .int .i64 p.col, .int .i64 p.op, .bool p.val.null, .int .i64 p.val.kind, .int .i64 p.val.int, bl p.val.bytes, pl p.nil p.list], .sl 4 (r.map Val.pv)] [] = some (.int .i64 (p.eval r), []) := fun r hr => Eval_ref (hRR.2 r hr).2 sp (by rw [(hKR r hr).1]; exact rp)
  generalize mayN (zonesN (schemaN n) X) X.length p = may at hM hsafe
  generalize zonesN (schemaN n) X = Z at hO hzl hM
  clear hKR hRR sp rp hC
  obtain ⟨b0, hb0⟩ : ∃ b0, ((Z.map Zn.pv).any fun x => x.any sharesP) = b0 := ⟨_, rfl⟩
  have hrp : (rowsPV X).length = X.length := by simp [rowsPV]
  rcases hpl : p.list with _ | ⟨a, r⟩
  · rw [hpl, plr_nil] at hP
    rw [hpn, hpl, pl_nil] at hM
    simp only [hpn, hpl, pl_nil] at hE
    clear hpl hpn
    simp -implicitDefEqProofs (maxSteps := 4000000) (disch := omega) only [go_sem, go_sem_proc, dr, Nat.min_def, ↓Nat.reduceBEq, ↓Nat.reduceEqDiff, ↓Nat.reduceLT, ↓Nat.reduceLeDiff, ↓Int.reduceEq, ↓Int.reduceLT, ↓Int.reduceLE, ↓reduceIte, Schema_spec, hR, hO, hP, hzl, hM, hrp, hb0]
    refine runs_any (fun i : Nat => safeSt b0 (rowsPV X) p (.nils) ([]) may X.length i) (fun i => X.length - i) 0 (fun i => i ≤ X.length) (Nat.zero_le _) ?_ ?_
    · cases b0 <;> simp -implicitDefEqProofs (maxSteps := 4000000) (disch := omega) only [go_sem, go_sem_proc, dr, Nat.min_def, ↓Nat.reduceBEq, ↓Nat.reduceEqDiff, ↓Nat.reduceLT, ↓Nat.reduceLeDiff, ↓Int.reduceEq, ↓Int.reduceLT, ↓Int.reduceLE, ↓reduceIte, safeSt]
    · intro i hi
      by_cases hlt : i < X.length
      · obtain ⟨r', hr', hrm, _⟩ := take_get hlt
        have hXr : (rowsPV X)[i]? = some [.sl 4 (r'.map Val.pv)] := by simp [rowsPV, hr']
        have hEr := hE r' hrm
        have hsr := hsafe r' hrm
        clear hE hsafe
        by_cases he : p.eval r' = 1
        · have hmt := hsr he
          subst hmt
          rw [he] at hEr
          clear hsr he
          cases b0
          · simp -implicitDefEqProofs (maxSteps := 4000000) (disch := omega) only [go_sem, go_sem_proc, dr, Nat.min_def, ↓Nat.reduceBEq, ↓Nat.reduceEqDiff, ↓Nat.reduceLT, ↓Nat.reduceLeDiff, ↓Int.reduceEq, ↓Int.reduceLT, ↓Int.reduceLE, ↓reduceIte, safeSt, hXr, hrp, hEr]
            exact ⟨i + 1, rfl, hlt, by omega⟩
          · simp -implicitDefEqProofs (maxSteps := 4000000) (disch := omega) only [go_sem, go_sem_proc, dr, Nat.min_def, ↓Nat.reduceBEq, ↓Nat.reduceEqDiff, ↓Nat.reduceLT, ↓Nat.reduceLeDiff, ↓Int.reduceEq, ↓Int.reduceLT, ↓Int.reduceLE, ↓reduceIte, safeSt, hXr, hrp, hEr]
            exact ⟨i + 1, rfl, hlt, by omega⟩
        · have he := eq_false he
          clear hsr
          cases b0
          · simp -implicitDefEqProofs (maxSteps := 4000000) (disch := omega) only [go_sem, go_sem_proc, dr, Nat.min_def, ↓Nat.reduceBEq, ↓Nat.reduceEqDiff, ↓Nat.reduceLT, ↓Nat.reduceLeDiff, ↓Int.reduceEq, ↓Int.reduceLT, ↓Int.reduceLE, ↓reduceIte, safeSt, hXr, hrp, hEr, he]
            exact ⟨i + 1, rfl, hlt, by omega⟩
          · simp -implicitDefEqProofs (maxSteps := 4000000) (disch := omega) only [go_sem, go_sem_proc, dr, Nat.min_def, ↓Nat.reduceBEq, ↓Nat.reduceEqDiff, ↓Nat.reduceLT, ↓Nat.reduceLeDiff, ↓Int.reduceEq, ↓Int.reduceLT, ↓Int.reduceLE, ↓reduceIte, safeSt, hXr, hrp, hEr, he]
            exact ⟨i + 1, rfl, hlt, by omega⟩
      · have hge : X.length ≤ i := by omega
        cases b0 <;> simp -implicitDefEqProofs (maxSteps := 4000000) (disch := omega) only [go_sem, go_sem_proc, dr, Nat.min_def, ↓Nat.reduceBEq, ↓Nat.reduceEqDiff, ↓Nat.reduceLT, ↓Nat.reduceLeDiff, ↓Int.reduceEq, ↓Int.reduceLT, ↓Int.reduceLE, ↓reduceIte, safeSt, h9]
  · rw [hpl, plr_cons] at hP
    rw [hpn, hpl, pl_some] at hM
    simp only [hpn, hpl, pl_some] at hE
    simp only [List.map_cons] at hM hP hE
    clear hpl hpn
    simp -implicitDefEqProofs (maxSteps := 4000000) (disch := omega) only [go_sem, go_sem_proc, dr, Nat.min_def, ↓Nat.reduceBEq, ↓Nat.reduceEqDiff, ↓Nat.reduceLT, ↓Nat.reduceLeDiff, ↓Int.reduceEq, ↓Int.reduceLT, ↓Int.reduceLE, ↓reduceIte, Schema_spec, hR, hO, hP, hzl, hM, hrp, hb0]
    refine runs_any (fun i : Nat => safeSt b0 (rowsPV X) p (.h 2097799) ([(2097799, some ⟨true, .row 30 8 (a.pv :: r.map Prd.pv)⟩)]) may X.length i) (fun i => X.length - i) 0 (fun i => i ≤ X.length) (Nat.zero_le _) ?_ ?_
    · cases b0 <;> simp -implicitDefEqProofs (maxSteps := 4000000) (disch := omega) only [go_sem, go_sem_proc, dr, Nat.min_def, ↓Nat.reduceBEq, ↓Nat.reduceEqDiff, ↓Nat.reduceLT, ↓Nat.reduceLeDiff, ↓Int.reduceEq, ↓Int.reduceLT, ↓Int.reduceLE, ↓reduceIte, safeSt]
    · intro i hi
      by_cases hlt : i < X.length
      · obtain ⟨r', hr', hrm, _⟩ := take_get hlt
        have hXr : (rowsPV X)[i]? = some [.sl 4 (r'.map Val.pv)] := by simp [rowsPV, hr']
        have hEr := hE r' hrm
        have hsr := hsafe r' hrm
        clear hE hsafe
        by_cases he : p.eval r' = 1
        · have hmt := hsr he
          subst hmt
          rw [he] at hEr
          clear hsr he
          cases b0
          · simp -implicitDefEqProofs (maxSteps := 4000000) (disch := omega) only [go_sem, go_sem_proc, dr, Nat.min_def, ↓Nat.reduceBEq, ↓Nat.reduceEqDiff, ↓Nat.reduceLT, ↓Nat.reduceLeDiff, ↓Int.reduceEq, ↓Int.reduceLT, ↓Int.reduceLE, ↓reduceIte, safeSt, hXr, hrp, hEr]
            exact ⟨i + 1, rfl, hlt, by omega⟩
          · simp -implicitDefEqProofs (maxSteps := 4000000) (disch := omega) only [go_sem, go_sem_proc, dr, Nat.min_def, ↓Nat.reduceBEq, ↓Nat.reduceEqDiff, ↓Nat.reduceLT, ↓Nat.reduceLeDiff, ↓Int.reduceEq, ↓Int.reduceLT, ↓Int.reduceLE, ↓reduceIte, safeSt, hXr, hrp, hEr]
            exact ⟨i + 1, rfl, hlt, by omega⟩
        · have he := eq_false he
          clear hsr
          cases b0
          · simp -implicitDefEqProofs (maxSteps := 4000000) (disch := omega) only [go_sem, go_sem_proc, dr, Nat.min_def, ↓Nat.reduceBEq, ↓Nat.reduceEqDiff, ↓Nat.reduceLT, ↓Nat.reduceLeDiff, ↓Int.reduceEq, ↓Int.reduceLT, ↓Int.reduceLE, ↓reduceIte, safeSt, hXr, hrp, hEr, he]
            exact ⟨i + 1, rfl, hlt, by omega⟩
          · simp -implicitDefEqProofs (maxSteps := 4000000) (disch := omega) only [go_sem, go_sem_proc, dr, Nat.min_def, ↓Nat.reduceBEq, ↓Nat.reduceEqDiff, ↓Nat.reduceLT, ↓Nat.reduceLeDiff, ↓Int.reduceEq, ↓Int.reduceLT, ↓Int.reduceLE, ↓reduceIte, safeSt, hXr, hrp, hEr, he]
            exact ⟨i + 1, rfl, hlt, by omega⟩
      · have hge : X.length ≤ i := by omega
        cases b0 <;> simp -implicitDefEqProofs (maxSteps := 4000000) (disch := omega) only [go_sem, go_sem_proc, dr, Nat.min_def, ↓Nat.reduceBEq, ↓Nat.reduceEqDiff, ↓Nat.reduceLT, ↓Nat.reduceLeDiff, ↓Int.reduceEq, ↓Int.reduceLT, ↓Int.reduceLE, ↓reduceIte, safeSt, h9]
end Go.Proofs.Ytgocfiehbgoacaa.D
