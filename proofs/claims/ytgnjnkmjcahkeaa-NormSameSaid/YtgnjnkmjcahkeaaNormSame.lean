/- NormSame: what the law comes to. -/
import Derived.Test.YtgnjnkmjcahkeaaNormSem
namespace Go.Proofs.Ytgnjnkmjcahkeaa.D
open Go Go.Den
set_option linter.unusedSimpArgs false
set_option linter.unusedVariables false
set_option maxRecDepth 20000
set_option maxHeartbeats 8000000
def sameSt (rows : List Int) (b7 : Bool) (S : List (List PV)) (p : Prd) (l8 : PV) (m8 : List (Nat × Option Ent)) (xk : Int) (l9 : PV) (m9 : List (Nat × Option Ent)) (ok : Bool) (key : Int) (has : Bool) (i : Nat) : St :=
  ⟨[(2, .sl 1 (ints .i64 rows)), (7, .pb 1048583 0), (8, .pb 1048584 0), (9, .pb 1048585 0), (10, .bool ok), (11, .int .i64 key), (12, .bool has), (13, .int .i64 i)],
   (1048583, some ⟨true, .box [if b7 then .sl 3 S else .h 2097600]⟩) :: ((if b7 then [] else [(2097600, some ⟨true, .row 71 3 S⟩)]) ++
   ((1048584, some ⟨true, .box [.int .i64 p.kind, .int .i64 p.col, .int .i64 p.op, .bool p.val.null, .int .i64 p.val.kind, .int .i64 p.val.int, bl p.val.bytes, l8]⟩) :: (m8 ++
   ((1048585, some ⟨true, .box [.int .i64 xk, .int .i64 0, .int .i64 0, .bool false, .int .i64 0, .int .i64 0, .nils, l9]⟩) :: m9)))), 1⟩
theorem row_head {s : List Col} (hs : 1 ≤ s.length) (x : Int) : ∃ t, (rowN s x).map Val.pv = [.bool false, .int .i64 1, .int .i64 (x % 16), .nils] :: t := by
  cases s with
  | nil => simp at hs
  | cons c r => exact ⟨_, by rw [rowN, List.mapIdx_cons]; rfl⟩
theorem still_shares' (p : Prd) : p.still.pv.any sharesP = true := by
  rw [still_pv]; simp [sharesP]
theorem NormSame_spec {n : Int} {l rows : List Int} : dw E 12 [.int .i64 n, .sl 1 (ints .i64 l), .sl 1 (ints .i64 rows)] [] = some (.bool true, []) := by
  refine dw_in (fn := Try.f12) rfl body12 (by simp) ?_
  have hs : 1 ≤ (schemaN n).length ∧ (schemaN n).length ≤ 20 := ⟨schemaN_pos n, by have := schemaN_length n; omega⟩
  have hP := Pred_spec (s := schemaN n) (l := l) hs 4 0 (by decide) (by decide)
  have hpn := predN_nil (schemaN n) l 4 0
  have sp := predN_Sm (schemaN n) l 4 0
  have wp := predN_Wf (schemaN n) l 4 0
  have rp := predN_RW hs.1 l 4 0
  have hC : cnt (predN (schemaN n) l 4 0) ≤ 256 := cnt_predN (schemaN n) l 4 0
  simp only [cast0, cast4] at hP
  generalize predN (schemaN n) l 4 0 = p at hP hpn sp wp hC rp
  have h8 := awake8
  have hK := Key_spec sp (by omega)
  have hks : ∀ (x : Int) (k : Int), keyN p = some k → p.eval (rowN (schemaN n) x) = 1 → x % 16 = k := fun x k hk h => by
    obtain ⟨c, hc, _, _⟩ := take_get (show 0 < (schemaN n).length by omega)
    have h0 : atV (rowN (schemaN n) x) ((0 : Nat) : Int) = ⟨false, 1, x % 16, none⟩ := by rw [atV_in (i := 0) rfl (rowN_get hc)]; rfl
    exact key_sem rp hk h0 rfl rfl h
  have hR := fun x => Row_spec (s := schemaN n) (n := x) hs.2
  have hE := fun x => Eval_ref (p := p) (row := rowN (schemaN n) x) (rowN_R1 _ _) sp (by rw [rowN_length]; exact rp)
  have hrh := fun x => row_head (s := schemaN n) hs.1 x
  cases hok : (formN false p).2 with
  | false =>
    have hN := Norm_no sp (by omega) hok
    have hkn : keyN p = none := by unfold keyN; rw [hok]; rfl
    rw [hkn] at hK
    simp only [keyPV] at hK
    clear hkn hks wp hC sp rp
    rcases hpl : p.list with _ | ⟨a, r⟩
    · rw [hpl, plr_nil] at hP
      rw [hpn, hpl, pl_nil] at hN hK
      simp only [hpn, hpl, pl_nil] at hE
      clear hpl hpn
      obtain ⟨b0, hb7⟩ : ∃ b0, sharesLeaf (bl p.val.bytes) = b0 := ⟨_, rfl⟩
      · simp -implicitDefEqProofs (maxSteps := 4000000) (disch := omega) only [go_sem, go_sem_proc, dr, Nat.min_def, ↓Nat.reduceBEq, ↓Nat.reduceEqDiff, ↓Nat.reduceLT, ↓Nat.reduceLeDiff, ↓Int.reduceEq, ↓Int.reduceLT, ↓Int.reduceLE, ↓reduceIte, Schema_spec, hP, hN, hK, hb7]
        refine runs_any (fun s : Nat × Bool => sameSt rows s.2 ((schemaN n).map Col.pv) p (.nils) ([]) 0 (.nils) ([]) false 0 false s.1) (fun s => 30 - s.1) (0, b0) (fun s => s.1 ≤ rows.length ∧ s.1 ≤ 30) ⟨by simp, by simp⟩ ?_ ?_
        · cases b0 <;> simp -implicitDefEqProofs (maxSteps := 4000000) (disch := omega) only [go_sem, go_sem_proc, dr, Nat.min_def, ↓Nat.reduceBEq, ↓Nat.reduceEqDiff, ↓Nat.reduceLT, ↓Nat.reduceLeDiff, ↓Int.reduceEq, ↓Int.reduceLT, ↓Int.reduceLE, ↓reduceIte, sameSt]
        · rintro ⟨i, b7⟩ ⟨hi1, hi2⟩
          dsimp only at hi1 hi2
          by_cases hlt : i < rows.length ∧ i < 30
          · obtain ⟨hi1, hi2⟩ := hlt
            obtain ⟨x, hx, _, _⟩ := take_get hi1
            have hRx := hR x
            have hEx := hE x
            obtain ⟨tl, hrx⟩ := hrh x
            have go : ∀ b, i + 1 ≤ rows.length ∧ i + 1 ≤ 30 := fun b => by omega
            generalize p.eval (rowN (schemaN n) x) = e at hEx
            by_cases he : e = 1
            · subst he
              cases b7
              · cases hsh : ((rowN (schemaN n) x).map Val.pv).any fun x => x.any sharesP
                · simp -implicitDefEqProofs (maxSteps := 4000000) (disch := omega) only [go_sem, go_sem_proc, dr, Nat.min_def, ↓Nat.reduceBEq, ↓Nat.reduceEqDiff, ↓Nat.reduceLT, ↓Nat.reduceLeDiff, ↓Int.reduceEq, ↓Int.reduceLT, ↓Int.reduceLE, ↓reduceIte, sameSt, hx, hRx, hEx, hsh]
                  first
                    | exact ⟨by ((repeat' split) <;> (change _ = true; kernel_rfl)), (i + 1, false), rfl, ⟨by omega, by omega⟩, by show 30 - (i + 1) < 30 - i; omega⟩
                    | exact ⟨(i + 1, false), rfl, ⟨by omega, by omega⟩, by show 30 - (i + 1) < 30 - i; omega⟩
                · simp -implicitDefEqProofs (maxSteps := 4000000) (disch := omega) only [go_sem, go_sem_proc, dr, Nat.min_def, ↓Nat.reduceBEq, ↓Nat.reduceEqDiff, ↓Nat.reduceLT, ↓Nat.reduceLeDiff, ↓Int.reduceEq, ↓Int.reduceLT, ↓Int.reduceLE, ↓reduceIte, sameSt, hx, hRx, hEx, hsh]
                  first
                    | exact ⟨by ((repeat' split) <;> (change _ = true; kernel_rfl)), (i + 1, true), rfl, ⟨by omega, by omega⟩, by show 30 - (i + 1) < 30 - i; omega⟩
                    | exact ⟨(i + 1, true), rfl, ⟨by omega, by omega⟩, by show 30 - (i + 1) < 30 - i; omega⟩
              · simp -implicitDefEqProofs (maxSteps := 4000000) (disch := omega) only [go_sem, go_sem_proc, dr, Nat.min_def, ↓Nat.reduceBEq, ↓Nat.reduceEqDiff, ↓Nat.reduceLT, ↓Nat.reduceLeDiff, ↓Int.reduceEq, ↓Int.reduceLT, ↓Int.reduceLE, ↓reduceIte, sameSt, hx, hRx, hEx]
                first
                  | exact ⟨by ((repeat' split) <;> (change _ = true; kernel_rfl)), (i + 1, true), rfl, ⟨by omega, by omega⟩, by show 30 - (i + 1) < 30 - i; omega⟩
                  | exact ⟨(i + 1, true), rfl, ⟨by omega, by omega⟩, by show 30 - (i + 1) < 30 - i; omega⟩
            · cases b7
              · cases hsh : ((rowN (schemaN n) x).map Val.pv).any fun x => x.any sharesP
                · simp -implicitDefEqProofs (maxSteps := 4000000) (disch := omega) only [go_sem, go_sem_proc, dr, Nat.min_def, ↓Nat.reduceBEq, ↓Nat.reduceEqDiff, ↓Nat.reduceLT, ↓Nat.reduceLeDiff, ↓Int.reduceEq, ↓Int.reduceLT, ↓Int.reduceLE, ↓reduceIte, sameSt, hx, hRx, hEx, hsh, he]
                  first
                    | exact ⟨by ((repeat' split) <;> (change _ = true; kernel_rfl)), (i + 1, false), rfl, ⟨by omega, by omega⟩, by show 30 - (i + 1) < 30 - i; omega⟩
                    | exact ⟨(i + 1, false), rfl, ⟨by omega, by omega⟩, by show 30 - (i + 1) < 30 - i; omega⟩
                · simp -implicitDefEqProofs (maxSteps := 4000000) (disch := omega) only [go_sem, go_sem_proc, dr, Nat.min_def, ↓Nat.reduceBEq, ↓Nat.reduceEqDiff, ↓Nat.reduceLT, ↓Nat.reduceLeDiff, ↓Int.reduceEq, ↓Int.reduceLT, ↓Int.reduceLE, ↓reduceIte, sameSt, hx, hRx, hEx, hsh, he]
                  first
                    | exact ⟨by ((repeat' split) <;> (change _ = true; kernel_rfl)), (i + 1, true), rfl, ⟨by omega, by omega⟩, by show 30 - (i + 1) < 30 - i; omega⟩
                    | exact ⟨(i + 1, true), rfl, ⟨by omega, by omega⟩, by show 30 - (i + 1) < 30 - i; omega⟩
              · simp -implicitDefEqProofs (maxSteps := 4000000) (disch := omega) only [go_sem, go_sem_proc, dr, Nat.min_def, ↓Nat.reduceBEq, ↓Nat.reduceEqDiff, ↓Nat.reduceLT, ↓Nat.reduceLeDiff, ↓Int.reduceEq, ↓Int.reduceLT, ↓Int.reduceLE, ↓reduceIte, sameSt, hx, hRx, hEx, he]
                first
                  | exact ⟨by ((repeat' split) <;> (change _ = true; kernel_rfl)), (i + 1, true), rfl, ⟨by omega, by omega⟩, by show 30 - (i + 1) < 30 - i; omega⟩
                  | exact ⟨(i + 1, true), rfl, ⟨by omega, by omega⟩, by show 30 - (i + 1) < 30 - i; omega⟩
          · by_cases hi3 : i < rows.length
            · have hi4 : 30 ≤ i := by omega
              clear hlt
              cases b7 <;> simp -implicitDefEqProofs (maxSteps := 4000000) (disch := omega) only [go_sem, go_sem_proc, dr, Nat.min_def, ↓Nat.reduceBEq, ↓Nat.reduceEqDiff, ↓Nat.reduceLT, ↓Nat.reduceLeDiff, ↓Int.reduceEq, ↓Int.reduceLT, ↓Int.reduceLE, ↓reduceIte, sameSt, h8]
            · clear hlt
              have hi3 : rows.length ≤ i := by omega
              cases b7 <;> simp -implicitDefEqProofs (maxSteps := 4000000) (disch := omega) only [go_sem, go_sem_proc, dr, Nat.min_def, ↓Nat.reduceBEq, ↓Nat.reduceEqDiff, ↓Nat.reduceLT, ↓Nat.reduceLeDiff, ↓Int.reduceEq, ↓Int.reduceLT, ↓Int.reduceLE, ↓reduceIte, sameSt, h8]
    · rw [hpl, plr_cons] at hP
      rw [hpn, hpl, pl_some] at hN hK
      simp only [hpn, hpl, pl_some] at hE
      simp only [List.map_cons] at hN hK hP hE
      clear hpl hpn
      obtain ⟨b0, hb7⟩ : ∃ b0, (sharesLeaf (bl p.val.bytes) || (a.pv.any sharesP || (r.map Prd.pv).any fun x => x.any sharesP)) = b0 := ⟨_, rfl⟩
      · simp -implicitDefEqProofs (maxSteps := 4000000) (disch := omega) only [go_sem, go_sem_proc, dr, Nat.min_def, ↓Nat.reduceBEq, ↓Nat.reduceEqDiff, ↓Nat.reduceLT, ↓Nat.reduceLeDiff, ↓Int.reduceEq, ↓Int.reduceLT, ↓Int.reduceLE, ↓reduceIte, Schema_spec, hP, hN, hK, hb7]
        refine runs_any (fun s : Nat × Bool => sameSt rows s.2 ((schemaN n).map Col.pv) p (.h 2097671) ([(2097671, some ⟨true, .row 28 8 (a.pv :: r.map Prd.pv)⟩)]) 0 (.nils) ([]) false 0 false s.1) (fun s => 30 - s.1) (0, b0) (fun s => s.1 ≤ rows.length ∧ s.1 ≤ 30) ⟨by simp, by simp⟩ ?_ ?_
        · cases b0 <;> simp -implicitDefEqProofs (maxSteps := 4000000) (disch := omega) only [go_sem, go_sem_proc, dr, Nat.min_def, ↓Nat.reduceBEq, ↓Nat.reduceEqDiff, ↓Nat.reduceLT, ↓Nat.reduceLeDiff, ↓Int.reduceEq, ↓Int.reduceLT, ↓Int.reduceLE, ↓reduceIte, sameSt]
        · rintro ⟨i, b7⟩ ⟨hi1, hi2⟩
          dsimp only at hi1 hi2
          by_cases hlt : i < rows.length ∧ i < 30
          · obtain ⟨hi1, hi2⟩ := hlt
            obtain ⟨x, hx, _, _⟩ := take_get hi1
            have hRx := hR x
            have hEx := hE x
            obtain ⟨tl, hrx⟩ := hrh x
            have go : ∀ b, i + 1 ≤ rows.length ∧ i + 1 ≤ 30 := fun b => by omega
            generalize p.eval (rowN (schemaN n) x) = e at hEx
            by_cases he : e = 1
            · subst he
              cases b7
              · cases hsh : ((rowN (schemaN n) x).map Val.pv).any fun x => x.any sharesP
                · simp -implicitDefEqProofs (maxSteps := 4000000) (disch := omega) only [go_sem, go_sem_proc, dr, Nat.min_def, ↓Nat.reduceBEq, ↓Nat.reduceEqDiff, ↓Nat.reduceLT, ↓Nat.reduceLeDiff, ↓Int.reduceEq, ↓Int.reduceLT, ↓Int.reduceLE, ↓reduceIte, sameSt, hx, hRx, hEx, hsh]
                  first
                    | exact ⟨by ((repeat' split) <;> (change _ = true; kernel_rfl)), (i + 1, false), rfl, ⟨by omega, by omega⟩, by show 30 - (i + 1) < 30 - i; omega⟩
                    | exact ⟨(i + 1, false), rfl, ⟨by omega, by omega⟩, by show 30 - (i + 1) < 30 - i; omega⟩
                · simp -implicitDefEqProofs (maxSteps := 4000000) (disch := omega) only [go_sem, go_sem_proc, dr, Nat.min_def, ↓Nat.reduceBEq, ↓Nat.reduceEqDiff, ↓Nat.reduceLT, ↓Nat.reduceLeDiff, ↓Int.reduceEq, ↓Int.reduceLT, ↓Int.reduceLE, ↓reduceIte, sameSt, hx, hRx, hEx, hsh]
                  first
                    | exact ⟨by ((repeat' split) <;> (change _ = true; kernel_rfl)), (i + 1, true), rfl, ⟨by omega, by omega⟩, by show 30 - (i + 1) < 30 - i; omega⟩
                    | exact ⟨(i + 1, true), rfl, ⟨by omega, by omega⟩, by show 30 - (i + 1) < 30 - i; omega⟩
              · simp -implicitDefEqProofs (maxSteps := 4000000) (disch := omega) only [go_sem, go_sem_proc, dr, Nat.min_def, ↓Nat.reduceBEq, ↓Nat.reduceEqDiff, ↓Nat.reduceLT, ↓Nat.reduceLeDiff, ↓Int.reduceEq, ↓Int.reduceLT, ↓Int.reduceLE, ↓reduceIte, sameSt, hx, hRx, hEx]
                first
                  | exact ⟨by ((repeat' split) <;> (change _ = true; kernel_rfl)), (i + 1, true), rfl, ⟨by omega, by omega⟩, by show 30 - (i + 1) < 30 - i; omega⟩
                  | exact ⟨(i + 1, true), rfl, ⟨by omega, by omega⟩, by show 30 - (i + 1) < 30 - i; omega⟩
            · cases b7
              · cases hsh : ((rowN (schemaN n) x).map Val.pv).any fun x => x.any sharesP
                · simp -implicitDefEqProofs (maxSteps := 4000000) (disch := omega) only [go_sem, go_sem_proc, dr, Nat.min_def, ↓Nat.reduceBEq, ↓Nat.reduceEqDiff, ↓Nat.reduceLT, ↓Nat.reduceLeDiff, ↓Int.reduceEq, ↓Int.reduceLT, ↓Int.reduceLE, ↓reduceIte, sameSt, hx, hRx, hEx, hsh, he]
                  first
                    | exact ⟨by ((repeat' split) <;> (change _ = true; kernel_rfl)), (i + 1, false), rfl, ⟨by omega, by omega⟩, by show 30 - (i + 1) < 30 - i; omega⟩
                    | exact ⟨(i + 1, false), rfl, ⟨by omega, by omega⟩, by show 30 - (i + 1) < 30 - i; omega⟩
                · simp -implicitDefEqProofs (maxSteps := 4000000) (disch := omega) only [go_sem, go_sem_proc, dr, Nat.min_def, ↓Nat.reduceBEq, ↓Nat.reduceEqDiff, ↓Nat.reduceLT, ↓Nat.reduceLeDiff, ↓Int.reduceEq, ↓Int.reduceLT, ↓Int.reduceLE, ↓reduceIte, sameSt, hx, hRx, hEx, hsh, he]
                  first
                    | exact ⟨by ((repeat' split) <;> (change _ = true; kernel_rfl)), (i + 1, true), rfl, ⟨by omega, by omega⟩, by show 30 - (i + 1) < 30 - i; omega⟩
                    | exact ⟨(i + 1, true), rfl, ⟨by omega, by omega⟩, by show 30 - (i + 1) < 30 - i; omega⟩
              · simp -implicitDefEqProofs (maxSteps := 4000000) (disch := omega) only [go_sem, go_sem_proc, dr, Nat.min_def, ↓Nat.reduceBEq, ↓Nat.reduceEqDiff, ↓Nat.reduceLT, ↓Nat.reduceLeDiff, ↓Int.reduceEq, ↓Int.reduceLT, ↓Int.reduceLE, ↓reduceIte, sameSt, hx, hRx, hEx, he]
                first
                  | exact ⟨by ((repeat' split) <;> (change _ = true; kernel_rfl)), (i + 1, true), rfl, ⟨by omega, by omega⟩, by show 30 - (i + 1) < 30 - i; omega⟩
                  | exact ⟨(i + 1, true), rfl, ⟨by omega, by omega⟩, by show 30 - (i + 1) < 30 - i; omega⟩
          · by_cases hi3 : i < rows.length
            · have hi4 : 30 ≤ i := by omega
              clear hlt
              cases b7 <;> simp -implicitDefEqProofs (maxSteps := 4000000) (disch := omega) only [go_sem, go_sem_proc, dr, Nat.min_def, ↓Nat.reduceBEq, ↓Nat.reduceEqDiff, ↓Nat.reduceLT, ↓Nat.reduceLeDiff, ↓Int.reduceEq, ↓Int.reduceLT, ↓Int.reduceLE, ↓reduceIte, sameSt, h8]
            · clear hlt
              have hi3 : rows.length ≤ i := by omega
              cases b7 <;> simp -implicitDefEqProofs (maxSteps := 4000000) (disch := omega) only [go_sem, go_sem_proc, dr, Nat.min_def, ↓Nat.reduceBEq, ↓Nat.reduceEqDiff, ↓Nat.reduceLT, ↓Nat.reduceLeDiff, ↓Int.reduceEq, ↓Int.reduceLT, ↓Int.reduceLE, ↓reduceIte, sameSt, h8]
  | true =>
    have hN := Norm_yes sp (by omega) hok
    have g := form_Gd sp false
    have gok := g.ok hok
    have gsm := g.sm
    have hlen := form_len (p := p) false hok
    have ar := form_RW rp false
    have ar : ∀ c ∈ (formN false p).1, ∀ q ∈ c.2, RW (schemaN n).length q := ar
    have hsem := fun x => form_sem (row := rowN (schemaN n) x) rp false hok
    simp only [Bool.false_eq_true, if_false] at hsem
    generalize (formN false p).1 = A at hN gok gsm hlen ar hsem
    have oS := orN_Sm (A := A) (by omega) (fun c hc => by have := gok c hc; omega) gsm
    have hX := fun x => Eval_ref (p := orN A) (row := rowN (schemaN n) x) (rowN_R1 _ _) oS (by rw [rowN_length]; exact orN_RW ar)
    have hsem : ∀ x, (orN A).eval (rowN (schemaN n) x) = 1 ↔ p.eval (rowN (schemaN n) x) = 1 := fun x => orN_eval.trans (hsem x)
    obtain ⟨f, hf⟩ : ∃ f : Int → Int, ∀ x, (orN A).eval (rowN (schemaN n) x) = f x := ⟨_, fun _ => rfl⟩
    simp only [hf] at hX hsem
    simp only [orN, Prd.kind, Prd.col, Prd.op, Prd.val, Prd.nil, Prd.list, valZ, bl_none, pl_false] at hX
    have hms : ∀ q ∈ (A.map andN).map Prd.still, q.pv.any sharesP = true := fun q hq => by
      obtain ⟨x, _, rfl⟩ := List.mem_map.1 hq
      exact still_shares' x
    generalize (A.map andN).map Prd.still = M at hN hX hms
    obtain ⟨key, has, hkp, hks'⟩ : ∃ (key : Int) (has : Bool), keyPV (keyN p) = .tup [.int .i64 key, .bool has] ∧ (has = true → ∀ x, p.eval (rowN (schemaN n) x) = 1 → x % 16 = key) := by
      cases hk : keyN p with
      | none => exact ⟨0, false, rfl, fun h => by cases h⟩
      | some k => exact ⟨k, true, rfl, fun _ x h => hks x k hk h⟩
    rw [hkp] at hK
    clear hkp hks wp hC sp rp g gok gsm hlen ar oS hf hok
    rcases M with _ | ⟨b, t⟩
    · clear hms
      simp only [List.map_nil] at hN hX
      rcases hpl : p.list with _ | ⟨a, r⟩
      · rw [hpl, plr_nil] at hP
        rw [hpn, hpl, pl_nil] at hN hK
        simp only [hpn, hpl, pl_nil] at hE
        clear hpl hpn
        obtain ⟨b0, hb7⟩ : ∃ b0, sharesLeaf (bl p.val.bytes) = b0 := ⟨_, rfl⟩
        · simp -implicitDefEqProofs (maxSteps := 4000000) (disch := omega) only [go_sem, go_sem_proc, dr, Nat.min_def, ↓Nat.reduceBEq, ↓Nat.reduceEqDiff, ↓Nat.reduceLT, ↓Nat.reduceLeDiff, ↓Int.reduceEq, ↓Int.reduceLT, ↓Int.reduceLE, ↓reduceIte, Schema_spec, hP, hN, hK, hb7]
          refine runs_any (fun s : Nat × Bool => sameSt rows s.2 ((schemaN n).map Col.pv) p (.nils) ([]) 5 (.h 2097735) ([(2097735, some ⟨true, .row 28 8 []⟩)]) true key has s.1) (fun s => 30 - s.1) (0, b0) (fun s => s.1 ≤ rows.length ∧ s.1 ≤ 30) ⟨by simp, by simp⟩ ?_ ?_
          · cases b0 <;> simp -implicitDefEqProofs (maxSteps := 4000000) (disch := omega) only [go_sem, go_sem_proc, dr, Nat.min_def, ↓Nat.reduceBEq, ↓Nat.reduceEqDiff, ↓Nat.reduceLT, ↓Nat.reduceLeDiff, ↓Int.reduceEq, ↓Int.reduceLT, ↓Int.reduceLE, ↓reduceIte, sameSt]
          · rintro ⟨i, b7⟩ ⟨hi1, hi2⟩
            dsimp only at hi1 hi2
            by_cases hlt : i < rows.length ∧ i < 30
            · obtain ⟨hi1, hi2⟩ := hlt
              obtain ⟨x, hx, _, _⟩ := take_get hi1
              have hRx := hR x
              have hEx := hE x
              obtain ⟨tl, hrx⟩ := hrh x
              have go : ∀ b, i + 1 ≤ rows.length ∧ i + 1 ≤ 30 := fun b => by omega
              have hXx := hX x
              have hsx := hsem x
              have hkx := fun h => hks' h x
              generalize p.eval (rowN (schemaN n) x) = e at hEx hsx hkx
              generalize f x = g at hXx hsx
              rw [hrx] at hRx hEx hXx
              by_cases he : e = 1
              · have hg : g = 1 := hsx.2 he
                subst he; subst hg
                cases has
                · cases b7
                  · cases hsh : tl.any fun x => x.any sharesP
                    · simp -implicitDefEqProofs (maxSteps := 4000000) (disch := omega) only [go_sem, go_sem_proc, dr, Nat.min_def, ↓Nat.reduceBEq, ↓Nat.reduceEqDiff, ↓Nat.reduceLT, ↓Nat.reduceLeDiff, ↓Int.reduceEq, ↓Int.reduceLT, ↓Int.reduceLE, ↓reduceIte, sameSt, hx, hRx, hEx, hXx, hsh]
                      first
                        | exact ⟨by ((repeat' split) <;> (change _ = true; kernel_rfl)), (i + 1, false), rfl, ⟨by omega, by omega⟩, by show 30 - (i + 1) < 30 - i; omega⟩
                        | exact ⟨(i + 1, false), rfl, ⟨by omega, by omega⟩, by show 30 - (i + 1) < 30 - i; omega⟩
                    · simp -implicitDefEqProofs (maxSteps := 4000000) (disch := omega) only [go_sem, go_sem_proc, dr, Nat.min_def, ↓Nat.reduceBEq, ↓Nat.reduceEqDiff, ↓Nat.reduceLT, ↓Nat.reduceLeDiff, ↓Int.reduceEq, ↓Int.reduceLT, ↓Int.reduceLE, ↓reduceIte, sameSt, hx, hRx, hEx, hXx, hsh]
                      first
                        | exact ⟨by ((repeat' split) <;> (change _ = true; kernel_rfl)), (i + 1, true), rfl, ⟨by omega, by omega⟩, by show 30 - (i + 1) < 30 - i; omega⟩
                        | exact ⟨(i + 1, true), rfl, ⟨by omega, by omega⟩, by show 30 - (i + 1) < 30 - i; omega⟩
                  · simp -implicitDefEqProofs (maxSteps := 4000000) (disch := omega) only [go_sem, go_sem_proc, dr, Nat.min_def, ↓Nat.reduceBEq, ↓Nat.reduceEqDiff, ↓Nat.reduceLT, ↓Nat.reduceLeDiff, ↓Int.reduceEq, ↓Int.reduceLT, ↓Int.reduceLE, ↓reduceIte, sameSt, hx, hRx, hEx, hXx]
                    first
                      | exact ⟨by ((repeat' split) <;> (change _ = true; kernel_rfl)), (i + 1, true), rfl, ⟨by omega, by omega⟩, by show 30 - (i + 1) < 30 - i; omega⟩
                      | exact ⟨(i + 1, true), rfl, ⟨by omega, by omega⟩, by show 30 - (i + 1) < 30 - i; omega⟩
                · have hkk := hkx rfl rfl
                  rw [hkk] at hRx hEx hXx
                  cases b7
                  · cases hsh : tl.any fun x => x.any sharesP
                    · simp -implicitDefEqProofs (maxSteps := 4000000) (disch := omega) only [go_sem, go_sem_proc, dr, Nat.min_def, ↓Nat.reduceBEq, ↓Nat.reduceEqDiff, ↓Nat.reduceLT, ↓Nat.reduceLeDiff, ↓Int.reduceEq, ↓Int.reduceLT, ↓Int.reduceLE, ↓reduceIte, sameSt, hx, hRx, hEx, hXx, hsh]
                      first
                        | exact ⟨by ((repeat' split) <;> (change _ = true; kernel_rfl)), (i + 1, false), rfl, ⟨by omega, by omega⟩, by show 30 - (i + 1) < 30 - i; omega⟩
                        | exact ⟨(i + 1, false), rfl, ⟨by omega, by omega⟩, by show 30 - (i + 1) < 30 - i; omega⟩
                    · simp -implicitDefEqProofs (maxSteps := 4000000) (disch := omega) only [go_sem, go_sem_proc, dr, Nat.min_def, ↓Nat.reduceBEq, ↓Nat.reduceEqDiff, ↓Nat.reduceLT, ↓Nat.reduceLeDiff, ↓Int.reduceEq, ↓Int.reduceLT, ↓Int.reduceLE, ↓reduceIte, sameSt, hx, hRx, hEx, hXx, hsh]
                      first
                        | exact ⟨by ((repeat' split) <;> (change _ = true; kernel_rfl)), (i + 1, true), rfl, ⟨by omega, by omega⟩, by show 30 - (i + 1) < 30 - i; omega⟩
                        | exact ⟨(i + 1, true), rfl, ⟨by omega, by omega⟩, by show 30 - (i + 1) < 30 - i; omega⟩
                  · simp -implicitDefEqProofs (maxSteps := 4000000) (disch := omega) only [go_sem, go_sem_proc, dr, Nat.min_def, ↓Nat.reduceBEq, ↓Nat.reduceEqDiff, ↓Nat.reduceLT, ↓Nat.reduceLeDiff, ↓Int.reduceEq, ↓Int.reduceLT, ↓Int.reduceLE, ↓reduceIte, sameSt, hx, hRx, hEx, hXx]
                    first
                      | exact ⟨by ((repeat' split) <;> (change _ = true; kernel_rfl)), (i + 1, true), rfl, ⟨by omega, by omega⟩, by show 30 - (i + 1) < 30 - i; omega⟩
                      | exact ⟨(i + 1, true), rfl, ⟨by omega, by omega⟩, by show 30 - (i + 1) < 30 - i; omega⟩
              · have hg : ¬ g = 1 := fun h => he (hsx.1 h)
                cases has
                · cases b7
                  · cases hsh : tl.any fun x => x.any sharesP
                    · simp -implicitDefEqProofs (maxSteps := 4000000) (disch := omega) only [go_sem, go_sem_proc, dr, Nat.min_def, ↓Nat.reduceBEq, ↓Nat.reduceEqDiff, ↓Nat.reduceLT, ↓Nat.reduceLeDiff, ↓Int.reduceEq, ↓Int.reduceLT, ↓Int.reduceLE, ↓reduceIte, sameSt, hx, hRx, hEx, hXx, he, hg, hsh]
                      first
                        | exact ⟨by ((repeat' split) <;> (change _ = true; kernel_rfl)), (i + 1, false), rfl, ⟨by omega, by omega⟩, by show 30 - (i + 1) < 30 - i; omega⟩
                        | exact ⟨(i + 1, false), rfl, ⟨by omega, by omega⟩, by show 30 - (i + 1) < 30 - i; omega⟩
                    · simp -implicitDefEqProofs (maxSteps := 4000000) (disch := omega) only [go_sem, go_sem_proc, dr, Nat.min_def, ↓Nat.reduceBEq, ↓Nat.reduceEqDiff, ↓Nat.reduceLT, ↓Nat.reduceLeDiff, ↓Int.reduceEq, ↓Int.reduceLT, ↓Int.reduceLE, ↓reduceIte, sameSt, hx, hRx, hEx, hXx, he, hg, hsh]
                      first
                        | exact ⟨by ((repeat' split) <;> (change _ = true; kernel_rfl)), (i + 1, true), rfl, ⟨by omega, by omega⟩, by show 30 - (i + 1) < 30 - i; omega⟩
                        | exact ⟨(i + 1, true), rfl, ⟨by omega, by omega⟩, by show 30 - (i + 1) < 30 - i; omega⟩
                  · simp -implicitDefEqProofs (maxSteps := 4000000) (disch := omega) only [go_sem, go_sem_proc, dr, Nat.min_def, ↓Nat.reduceBEq, ↓Nat.reduceEqDiff, ↓Nat.reduceLT, ↓Nat.reduceLeDiff, ↓Int.reduceEq, ↓Int.reduceLT, ↓Int.reduceLE, ↓reduceIte, sameSt, hx, hRx, hEx, hXx, he, hg]
                    first
                      | exact ⟨by ((repeat' split) <;> (change _ = true; kernel_rfl)), (i + 1, true), rfl, ⟨by omega, by omega⟩, by show 30 - (i + 1) < 30 - i; omega⟩
                      | exact ⟨(i + 1, true), rfl, ⟨by omega, by omega⟩, by show 30 - (i + 1) < 30 - i; omega⟩
                · cases b7
                  · cases hsh : tl.any fun x => x.any sharesP
                    · simp -implicitDefEqProofs (maxSteps := 4000000) (disch := omega) only [go_sem, go_sem_proc, dr, Nat.min_def, ↓Nat.reduceBEq, ↓Nat.reduceEqDiff, ↓Nat.reduceLT, ↓Nat.reduceLeDiff, ↓Int.reduceEq, ↓Int.reduceLT, ↓Int.reduceLE, ↓reduceIte, sameSt, hx, hRx, hEx, hXx, he, hg, hsh]
                      first
                        | exact ⟨by ((repeat' split) <;> (change _ = true; kernel_rfl)), (i + 1, false), rfl, ⟨by omega, by omega⟩, by show 30 - (i + 1) < 30 - i; omega⟩
                        | exact ⟨(i + 1, false), rfl, ⟨by omega, by omega⟩, by show 30 - (i + 1) < 30 - i; omega⟩
                    · simp -implicitDefEqProofs (maxSteps := 4000000) (disch := omega) only [go_sem, go_sem_proc, dr, Nat.min_def, ↓Nat.reduceBEq, ↓Nat.reduceEqDiff, ↓Nat.reduceLT, ↓Nat.reduceLeDiff, ↓Int.reduceEq, ↓Int.reduceLT, ↓Int.reduceLE, ↓reduceIte, sameSt, hx, hRx, hEx, hXx, he, hg, hsh]
                      first
                        | exact ⟨by ((repeat' split) <;> (change _ = true; kernel_rfl)), (i + 1, true), rfl, ⟨by omega, by omega⟩, by show 30 - (i + 1) < 30 - i; omega⟩
                        | exact ⟨(i + 1, true), rfl, ⟨by omega, by omega⟩, by show 30 - (i + 1) < 30 - i; omega⟩
                  · simp -implicitDefEqProofs (maxSteps := 4000000) (disch := omega) only [go_sem, go_sem_proc, dr, Nat.min_def, ↓Nat.reduceBEq, ↓Nat.reduceEqDiff, ↓Nat.reduceLT, ↓Nat.reduceLeDiff, ↓Int.reduceEq, ↓Int.reduceLT, ↓Int.reduceLE, ↓reduceIte, sameSt, hx, hRx, hEx, hXx, he, hg]
                    first
                      | exact ⟨by ((repeat' split) <;> (change _ = true; kernel_rfl)), (i + 1, true), rfl, ⟨by omega, by omega⟩, by show 30 - (i + 1) < 30 - i; omega⟩
                      | exact ⟨(i + 1, true), rfl, ⟨by omega, by omega⟩, by show 30 - (i + 1) < 30 - i; omega⟩
            · by_cases hi3 : i < rows.length
              · have hi4 : 30 ≤ i := by omega
                clear hlt
                cases b7 <;> simp -implicitDefEqProofs (maxSteps := 4000000) (disch := omega) only [go_sem, go_sem_proc, dr, Nat.min_def, ↓Nat.reduceBEq, ↓Nat.reduceEqDiff, ↓Nat.reduceLT, ↓Nat.reduceLeDiff, ↓Int.reduceEq, ↓Int.reduceLT, ↓Int.reduceLE, ↓reduceIte, sameSt, h8]
              · clear hlt
                have hi3 : rows.length ≤ i := by omega
                cases b7 <;> simp -implicitDefEqProofs (maxSteps := 4000000) (disch := omega) only [go_sem, go_sem_proc, dr, Nat.min_def, ↓Nat.reduceBEq, ↓Nat.reduceEqDiff, ↓Nat.reduceLT, ↓Nat.reduceLeDiff, ↓Int.reduceEq, ↓Int.reduceLT, ↓Int.reduceLE, ↓reduceIte, sameSt, h8]
      · rw [hpl, plr_cons] at hP
        rw [hpn, hpl, pl_some] at hN hK
        simp only [hpn, hpl, pl_some] at hE
        simp only [List.map_cons] at hN hK hP hE
        clear hpl hpn
        obtain ⟨b0, hb7⟩ : ∃ b0, (sharesLeaf (bl p.val.bytes) || (a.pv.any sharesP || (r.map Prd.pv).any fun x => x.any sharesP)) = b0 := ⟨_, rfl⟩
        · simp -implicitDefEqProofs (maxSteps := 4000000) (disch := omega) only [go_sem, go_sem_proc, dr, Nat.min_def, ↓Nat.reduceBEq, ↓Nat.reduceEqDiff, ↓Nat.reduceLT, ↓Nat.reduceLeDiff, ↓Int.reduceEq, ↓Int.reduceLT, ↓Int.reduceLE, ↓reduceIte, Schema_spec, hP, hN, hK, hb7]
          refine runs_any (fun s : Nat × Bool => sameSt rows s.2 ((schemaN n).map Col.pv) p (.h 2097671) ([(2097671, some ⟨true, .row 28 8 (a.pv :: r.map Prd.pv)⟩)]) 5 (.h 2097735) ([(2097735, some ⟨true, .row 28 8 []⟩)]) true key has s.1) (fun s => 30 - s.1) (0, b0) (fun s => s.1 ≤ rows.length ∧ s.1 ≤ 30) ⟨by simp, by simp⟩ ?_ ?_
          · cases b0 <;> simp -implicitDefEqProofs (maxSteps := 4000000) (disch := omega) only [go_sem, go_sem_proc, dr, Nat.min_def, ↓Nat.reduceBEq, ↓Nat.reduceEqDiff, ↓Nat.reduceLT, ↓Nat.reduceLeDiff, ↓Int.reduceEq, ↓Int.reduceLT, ↓Int.reduceLE, ↓reduceIte, sameSt]
          · rintro ⟨i, b7⟩ ⟨hi1, hi2⟩
            dsimp only at hi1 hi2
            by_cases hlt : i < rows.length ∧ i < 30
            · obtain ⟨hi1, hi2⟩ := hlt
              obtain ⟨x, hx, _, _⟩ := take_get hi1
              have hRx := hR x
              have hEx := hE x
              obtain ⟨tl, hrx⟩ := hrh x
              have go : ∀ b, i + 1 ≤ rows.length ∧ i + 1 ≤ 30 := fun b => by omega
              have hXx := hX x
              have hsx := hsem x
              have hkx := fun h => hks' h x
              generalize p.eval (rowN (schemaN n) x) = e at hEx hsx hkx
              generalize f x = g at hXx hsx
              rw [hrx] at hRx hEx hXx
              by_cases he : e = 1
              · have hg : g = 1 := hsx.2 he
                subst he; subst hg
                cases has
                · cases b7
                  · cases hsh : tl.any fun x => x.any sharesP
                    · simp -implicitDefEqProofs (maxSteps := 4000000) (disch := omega) only [go_sem, go_sem_proc, dr, Nat.min_def, ↓Nat.reduceBEq, ↓Nat.reduceEqDiff, ↓Nat.reduceLT, ↓Nat.reduceLeDiff, ↓Int.reduceEq, ↓Int.reduceLT, ↓Int.reduceLE, ↓reduceIte, sameSt, hx, hRx, hEx, hXx, hsh]
                      first
                        | exact ⟨by ((repeat' split) <;> (change _ = true; kernel_rfl)), (i + 1, false), rfl, ⟨by omega, by omega⟩, by show 30 - (i + 1) < 30 - i; omega⟩
                        | exact ⟨(i + 1, false), rfl, ⟨by omega, by omega⟩, by show 30 - (i + 1) < 30 - i; omega⟩
                    · simp -implicitDefEqProofs (maxSteps := 4000000) (disch := omega) only [go_sem, go_sem_proc, dr, Nat.min_def, ↓Nat.reduceBEq, ↓Nat.reduceEqDiff, ↓Nat.reduceLT, ↓Nat.reduceLeDiff, ↓Int.reduceEq, ↓Int.reduceLT, ↓Int.reduceLE, ↓reduceIte, sameSt, hx, hRx, hEx, hXx, hsh]
                      first
                        | exact ⟨by ((repeat' split) <;> (change _ = true; kernel_rfl)), (i + 1, true), rfl, ⟨by omega, by omega⟩, by show 30 - (i + 1) < 30 - i; omega⟩
                        | exact ⟨(i + 1, true), rfl, ⟨by omega, by omega⟩, by show 30 - (i + 1) < 30 - i; omega⟩
                  · simp -implicitDefEqProofs (maxSteps := 4000000) (disch := omega) only [go_sem, go_sem_proc, dr, Nat.min_def, ↓Nat.reduceBEq, ↓Nat.reduceEqDiff, ↓Nat.reduceLT, ↓Nat.reduceLeDiff, ↓Int.reduceEq, ↓Int.reduceLT, ↓Int.reduceLE, ↓reduceIte, sameSt, hx, hRx, hEx, hXx]
                    first
                      | exact ⟨by ((repeat' split) <;> (change _ = true; kernel_rfl)), (i + 1, true), rfl, ⟨by omega, by omega⟩, by show 30 - (i + 1) < 30 - i; omega⟩
                      | exact ⟨(i + 1, true), rfl, ⟨by omega, by omega⟩, by show 30 - (i + 1) < 30 - i; omega⟩
                · have hkk := hkx rfl rfl
                  rw [hkk] at hRx hEx hXx
                  cases b7
                  · cases hsh : tl.any fun x => x.any sharesP
                    · simp -implicitDefEqProofs (maxSteps := 4000000) (disch := omega) only [go_sem, go_sem_proc, dr, Nat.min_def, ↓Nat.reduceBEq, ↓Nat.reduceEqDiff, ↓Nat.reduceLT, ↓Nat.reduceLeDiff, ↓Int.reduceEq, ↓Int.reduceLT, ↓Int.reduceLE, ↓reduceIte, sameSt, hx, hRx, hEx, hXx, hsh]
                      first
                        | exact ⟨by ((repeat' split) <;> (change _ = true; kernel_rfl)), (i + 1, false), rfl, ⟨by omega, by omega⟩, by show 30 - (i + 1) < 30 - i; omega⟩
                        | exact ⟨(i + 1, false), rfl, ⟨by omega, by omega⟩, by show 30 - (i + 1) < 30 - i; omega⟩
                    · simp -implicitDefEqProofs (maxSteps := 4000000) (disch := omega) only [go_sem, go_sem_proc, dr, Nat.min_def, ↓Nat.reduceBEq, ↓Nat.reduceEqDiff, ↓Nat.reduceLT, ↓Nat.reduceLeDiff, ↓Int.reduceEq, ↓Int.reduceLT, ↓Int.reduceLE, ↓reduceIte, sameSt, hx, hRx, hEx, hXx, hsh]
                      first
                        | exact ⟨by ((repeat' split) <;> (change _ = true; kernel_rfl)), (i + 1, true), rfl, ⟨by omega, by omega⟩, by show 30 - (i + 1) < 30 - i; omega⟩
                        | exact ⟨(i + 1, true), rfl, ⟨by omega, by omega⟩, by show 30 - (i + 1) < 30 - i; omega⟩
                  · simp -implicitDefEqProofs (maxSteps := 4000000) (disch := omega) only [go_sem, go_sem_proc, dr, Nat.min_def, ↓Nat.reduceBEq, ↓Nat.reduceEqDiff, ↓Nat.reduceLT, ↓Nat.reduceLeDiff, ↓Int.reduceEq, ↓Int.reduceLT, ↓Int.reduceLE, ↓reduceIte, sameSt, hx, hRx, hEx, hXx]
                    first
                      | exact ⟨by ((repeat' split) <;> (change _ = true; kernel_rfl)), (i + 1, true), rfl, ⟨by omega, by omega⟩, by show 30 - (i + 1) < 30 - i; omega⟩
                      | exact ⟨(i + 1, true), rfl, ⟨by omega, by omega⟩, by show 30 - (i + 1) < 30 - i; omega⟩
              · have hg : ¬ g = 1 := fun h => he (hsx.1 h)
                cases has
                · cases b7
                  · cases hsh : tl.any fun x => x.any sharesP
                    · simp -implicitDefEqProofs (maxSteps := 4000000) (disch := omega) only [go_sem, go_sem_proc, dr, Nat.min_def, ↓Nat.reduceBEq, ↓Nat.reduceEqDiff, ↓Nat.reduceLT, ↓Nat.reduceLeDiff, ↓Int.reduceEq, ↓Int.reduceLT, ↓Int.reduceLE, ↓reduceIte, sameSt, hx, hRx, hEx, hXx, he, hg, hsh]
                      first
                        | exact ⟨by ((repeat' split) <;> (change _ = true; kernel_rfl)), (i + 1, false), rfl, ⟨by omega, by omega⟩, by show 30 - (i + 1) < 30 - i; omega⟩
                        | exact ⟨(i + 1, false), rfl, ⟨by omega, by omega⟩, by show 30 - (i + 1) < 30 - i; omega⟩
                    · simp -implicitDefEqProofs (maxSteps := 4000000) (disch := omega) only [go_sem, go_sem_proc, dr, Nat.min_def, ↓Nat.reduceBEq, ↓Nat.reduceEqDiff, ↓Nat.reduceLT, ↓Nat.reduceLeDiff, ↓Int.reduceEq, ↓Int.reduceLT, ↓Int.reduceLE, ↓reduceIte, sameSt, hx, hRx, hEx, hXx, he, hg, hsh]
                      first
                        | exact ⟨by ((repeat' split) <;> (change _ = true; kernel_rfl)), (i + 1, true), rfl, ⟨by omega, by omega⟩, by show 30 - (i + 1) < 30 - i; omega⟩
                        | exact ⟨(i + 1, true), rfl, ⟨by omega, by omega⟩, by show 30 - (i + 1) < 30 - i; omega⟩
                  · simp -implicitDefEqProofs (maxSteps := 4000000) (disch := omega) only [go_sem, go_sem_proc, dr, Nat.min_def, ↓Nat.reduceBEq, ↓Nat.reduceEqDiff, ↓Nat.reduceLT, ↓Nat.reduceLeDiff, ↓Int.reduceEq, ↓Int.reduceLT, ↓Int.reduceLE, ↓reduceIte, sameSt, hx, hRx, hEx, hXx, he, hg]
                    first
                      | exact ⟨by ((repeat' split) <;> (change _ = true; kernel_rfl)), (i + 1, true), rfl, ⟨by omega, by omega⟩, by show 30 - (i + 1) < 30 - i; omega⟩
                      | exact ⟨(i + 1, true), rfl, ⟨by omega, by omega⟩, by show 30 - (i + 1) < 30 - i; omega⟩
                · cases b7
                  · cases hsh : tl.any fun x => x.any sharesP
                    · simp -implicitDefEqProofs (maxSteps := 4000000) (disch := omega) only [go_sem, go_sem_proc, dr, Nat.min_def, ↓Nat.reduceBEq, ↓Nat.reduceEqDiff, ↓Nat.reduceLT, ↓Nat.reduceLeDiff, ↓Int.reduceEq, ↓Int.reduceLT, ↓Int.reduceLE, ↓reduceIte, sameSt, hx, hRx, hEx, hXx, he, hg, hsh]
                      first
                        | exact ⟨by ((repeat' split) <;> (change _ = true; kernel_rfl)), (i + 1, false), rfl, ⟨by omega, by omega⟩, by show 30 - (i + 1) < 30 - i; omega⟩
                        | exact ⟨(i + 1, false), rfl, ⟨by omega, by omega⟩, by show 30 - (i + 1) < 30 - i; omega⟩
                    · simp -implicitDefEqProofs (maxSteps := 4000000) (disch := omega) only [go_sem, go_sem_proc, dr, Nat.min_def, ↓Nat.reduceBEq, ↓Nat.reduceEqDiff, ↓Nat.reduceLT, ↓Nat.reduceLeDiff, ↓Int.reduceEq, ↓Int.reduceLT, ↓Int.reduceLE, ↓reduceIte, sameSt, hx, hRx, hEx, hXx, he, hg, hsh]
                      first
                        | exact ⟨by ((repeat' split) <;> (change _ = true; kernel_rfl)), (i + 1, true), rfl, ⟨by omega, by omega⟩, by show 30 - (i + 1) < 30 - i; omega⟩
                        | exact ⟨(i + 1, true), rfl, ⟨by omega, by omega⟩, by show 30 - (i + 1) < 30 - i; omega⟩
                  · simp -implicitDefEqProofs (maxSteps := 4000000) (disch := omega) only [go_sem, go_sem_proc, dr, Nat.min_def, ↓Nat.reduceBEq, ↓Nat.reduceEqDiff, ↓Nat.reduceLT, ↓Nat.reduceLeDiff, ↓Int.reduceEq, ↓Int.reduceLT, ↓Int.reduceLE, ↓reduceIte, sameSt, hx, hRx, hEx, hXx, he, hg]
                    first
                      | exact ⟨by ((repeat' split) <;> (change _ = true; kernel_rfl)), (i + 1, true), rfl, ⟨by omega, by omega⟩, by show 30 - (i + 1) < 30 - i; omega⟩
                      | exact ⟨(i + 1, true), rfl, ⟨by omega, by omega⟩, by show 30 - (i + 1) < 30 - i; omega⟩
            · by_cases hi3 : i < rows.length
              · have hi4 : 30 ≤ i := by omega
                clear hlt
                cases b7 <;> simp -implicitDefEqProofs (maxSteps := 4000000) (disch := omega) only [go_sem, go_sem_proc, dr, Nat.min_def, ↓Nat.reduceBEq, ↓Nat.reduceEqDiff, ↓Nat.reduceLT, ↓Nat.reduceLeDiff, ↓Int.reduceEq, ↓Int.reduceLT, ↓Int.reduceLE, ↓reduceIte, sameSt, h8]
              · clear hlt
                have hi3 : rows.length ≤ i := by omega
                cases b7 <;> simp -implicitDefEqProofs (maxSteps := 4000000) (disch := omega) only [go_sem, go_sem_proc, dr, Nat.min_def, ↓Nat.reduceBEq, ↓Nat.reduceEqDiff, ↓Nat.reduceLT, ↓Nat.reduceLeDiff, ↓Int.reduceEq, ↓Int.reduceLT, ↓Int.reduceLE, ↓reduceIte, sameSt, h8]
    · have hb := hms b List.mem_cons_self
      clear hms
      simp only [List.map_cons] at hN hX
      rcases hpl : p.list with _ | ⟨a, r⟩
      · rw [hpl, plr_nil] at hP
        rw [hpn, hpl, pl_nil] at hN hK
        simp only [hpn, hpl, pl_nil] at hE
        clear hpl hpn
        obtain ⟨b0, hb7⟩ : ∃ b0, sharesLeaf (bl p.val.bytes) = b0 := ⟨_, rfl⟩
        · simp -implicitDefEqProofs (maxSteps := 4000000) (disch := omega) only [go_sem, go_sem_proc, dr, Nat.min_def, ↓Nat.reduceBEq, ↓Nat.reduceEqDiff, ↓Nat.reduceLT, ↓Nat.reduceLeDiff, ↓Int.reduceEq, ↓Int.reduceLT, ↓Int.reduceLE, ↓reduceIte, Schema_spec, hP, hN, hK, hb7, hb]
          refine runs_any (fun s : Nat × Bool => sameSt rows s.2 ((schemaN n).map Col.pv) p (.nils) ([]) 5 (.h 2097735) ([(2097735, some ⟨true, .row 28 8 (b.pv :: t.map Prd.pv)⟩)]) true key has s.1) (fun s => 30 - s.1) (0, b0) (fun s => s.1 ≤ rows.length ∧ s.1 ≤ 30) ⟨by simp, by simp⟩ ?_ ?_
          · cases b0 <;> simp -implicitDefEqProofs (maxSteps := 4000000) (disch := omega) only [go_sem, go_sem_proc, dr, Nat.min_def, ↓Nat.reduceBEq, ↓Nat.reduceEqDiff, ↓Nat.reduceLT, ↓Nat.reduceLeDiff, ↓Int.reduceEq, ↓Int.reduceLT, ↓Int.reduceLE, ↓reduceIte, sameSt]
          · rintro ⟨i, b7⟩ ⟨hi1, hi2⟩
            dsimp only at hi1 hi2
            by_cases hlt : i < rows.length ∧ i < 30
            · obtain ⟨hi1, hi2⟩ := hlt
              obtain ⟨x, hx, _, _⟩ := take_get hi1
              have hRx := hR x
              have hEx := hE x
              obtain ⟨tl, hrx⟩ := hrh x
              have go : ∀ b, i + 1 ≤ rows.length ∧ i + 1 ≤ 30 := fun b => by omega
              have hXx := hX x
              have hsx := hsem x
              have hkx := fun h => hks' h x
              generalize p.eval (rowN (schemaN n) x) = e at hEx hsx hkx
              generalize f x = g at hXx hsx
              rw [hrx] at hRx hEx hXx
              by_cases he : e = 1
              · have hg : g = 1 := hsx.2 he
                subst he; subst hg
                cases has
                · cases b7
                  · cases hsh : tl.any fun x => x.any sharesP
                    · simp -implicitDefEqProofs (maxSteps := 4000000) (disch := omega) only [go_sem, go_sem_proc, dr, Nat.min_def, ↓Nat.reduceBEq, ↓Nat.reduceEqDiff, ↓Nat.reduceLT, ↓Nat.reduceLeDiff, ↓Int.reduceEq, ↓Int.reduceLT, ↓Int.reduceLE, ↓reduceIte, sameSt, hx, hRx, hEx, hXx, hsh]
                      first
                        | exact ⟨by ((repeat' split) <;> (change _ = true; kernel_rfl)), (i + 1, false), rfl, ⟨by omega, by omega⟩, by show 30 - (i + 1) < 30 - i; omega⟩
                        | exact ⟨(i + 1, false), rfl, ⟨by omega, by omega⟩, by show 30 - (i + 1) < 30 - i; omega⟩
                    · simp -implicitDefEqProofs (maxSteps := 4000000) (disch := omega) only [go_sem, go_sem_proc, dr, Nat.min_def, ↓Nat.reduceBEq, ↓Nat.reduceEqDiff, ↓Nat.reduceLT, ↓Nat.reduceLeDiff, ↓Int.reduceEq, ↓Int.reduceLT, ↓Int.reduceLE, ↓reduceIte, sameSt, hx, hRx, hEx, hXx, hsh]
                      first
                        | exact ⟨by ((repeat' split) <;> (change _ = true; kernel_rfl)), (i + 1, true), rfl, ⟨by omega, by omega⟩, by show 30 - (i + 1) < 30 - i; omega⟩
                        | exact ⟨(i + 1, true), rfl, ⟨by omega, by omega⟩, by show 30 - (i + 1) < 30 - i; omega⟩
                  · simp -implicitDefEqProofs (maxSteps := 4000000) (disch := omega) only [go_sem, go_sem_proc, dr, Nat.min_def, ↓Nat.reduceBEq, ↓Nat.reduceEqDiff, ↓Nat.reduceLT, ↓Nat.reduceLeDiff, ↓Int.reduceEq, ↓Int.reduceLT, ↓Int.reduceLE, ↓reduceIte, sameSt, hx, hRx, hEx, hXx]
                    first
                      | exact ⟨by ((repeat' split) <;> (change _ = true; kernel_rfl)), (i + 1, true), rfl, ⟨by omega, by omega⟩, by show 30 - (i + 1) < 30 - i; omega⟩
                      | exact ⟨(i + 1, true), rfl, ⟨by omega, by omega⟩, by show 30 - (i + 1) < 30 - i; omega⟩
                · have hkk := hkx rfl rfl
                  rw [hkk] at hRx hEx hXx
                  cases b7
                  · cases hsh : tl.any fun x => x.any sharesP
                    · simp -implicitDefEqProofs (maxSteps := 4000000) (disch := omega) only [go_sem, go_sem_proc, dr, Nat.min_def, ↓Nat.reduceBEq, ↓Nat.reduceEqDiff, ↓Nat.reduceLT, ↓Nat.reduceLeDiff, ↓Int.reduceEq, ↓Int.reduceLT, ↓Int.reduceLE, ↓reduceIte, sameSt, hx, hRx, hEx, hXx, hsh]
                      first
                        | exact ⟨by ((repeat' split) <;> (change _ = true; kernel_rfl)), (i + 1, false), rfl, ⟨by omega, by omega⟩, by show 30 - (i + 1) < 30 - i; omega⟩
                        | exact ⟨(i + 1, false), rfl, ⟨by omega, by omega⟩, by show 30 - (i + 1) < 30 - i; omega⟩
                    · simp -implicitDefEqProofs (maxSteps := 4000000) (disch := omega) only [go_sem, go_sem_proc, dr, Nat.min_def, ↓Nat.reduceBEq, ↓Nat.reduceEqDiff, ↓Nat.reduceLT, ↓Nat.reduceLeDiff, ↓Int.reduceEq, ↓Int.reduceLT, ↓Int.reduceLE, ↓reduceIte, sameSt, hx, hRx, hEx, hXx, hsh]
                      first
                        | exact ⟨by ((repeat' split) <;> (change _ = true; kernel_rfl)), (i + 1, true), rfl, ⟨by omega, by omega⟩, by show 30 - (i + 1) < 30 - i; omega⟩
                        | exact ⟨(i + 1, true), rfl, ⟨by omega, by omega⟩, by show 30 - (i + 1) < 30 - i; omega⟩
                  · simp -implicitDefEqProofs (maxSteps := 4000000) (disch := omega) only [go_sem, go_sem_proc, dr, Nat.min_def, ↓Nat.reduceBEq, ↓Nat.reduceEqDiff, ↓Nat.reduceLT, ↓Nat.reduceLeDiff, ↓Int.reduceEq, ↓Int.reduceLT, ↓Int.reduceLE, ↓reduceIte, sameSt, hx, hRx, hEx, hXx]
                    first
                      | exact ⟨by ((repeat' split) <;> (change _ = true; kernel_rfl)), (i + 1, true), rfl, ⟨by omega, by omega⟩, by show 30 - (i + 1) < 30 - i; omega⟩
                      | exact ⟨(i + 1, true), rfl, ⟨by omega, by omega⟩, by show 30 - (i + 1) < 30 - i; omega⟩
              · have hg : ¬ g = 1 := fun h => he (hsx.1 h)
                cases has
                · cases b7
                  · cases hsh : tl.any fun x => x.any sharesP
                    · simp -implicitDefEqProofs (maxSteps := 4000000) (disch := omega) only [go_sem, go_sem_proc, dr, Nat.min_def, ↓Nat.reduceBEq, ↓Nat.reduceEqDiff, ↓Nat.reduceLT, ↓Nat.reduceLeDiff, ↓Int.reduceEq, ↓Int.reduceLT, ↓Int.reduceLE, ↓reduceIte, sameSt, hx, hRx, hEx, hXx, he, hg, hsh]
                      first
                        | exact ⟨by ((repeat' split) <;> (change _ = true; kernel_rfl)), (i + 1, false), rfl, ⟨by omega, by omega⟩, by show 30 - (i + 1) < 30 - i; omega⟩
                        | exact ⟨(i + 1, false), rfl, ⟨by omega, by omega⟩, by show 30 - (i + 1) < 30 - i; omega⟩
                    · simp -implicitDefEqProofs (maxSteps := 4000000) (disch := omega) only [go_sem, go_sem_proc, dr, Nat.min_def, ↓Nat.reduceBEq, ↓Nat.reduceEqDiff, ↓Nat.reduceLT, ↓Nat.reduceLeDiff, ↓Int.reduceEq, ↓Int.reduceLT, ↓Int.reduceLE, ↓reduceIte, sameSt, hx, hRx, hEx, hXx, he, hg, hsh]
                      first
                        | exact ⟨by ((repeat' split) <;> (change _ = true; kernel_rfl)), (i + 1, true), rfl, ⟨by omega, by omega⟩, by show 30 - (i + 1) < 30 - i; omega⟩
                        | exact ⟨(i + 1, true), rfl, ⟨by omega, by omega⟩, by show 30 - (i + 1) < 30 - i; omega⟩
                  · simp -implicitDefEqProofs (maxSteps := 4000000) (disch := omega) only [go_sem, go_sem_proc, dr, Nat.min_def, ↓Nat.reduceBEq, ↓Nat.reduceEqDiff, ↓Nat.reduceLT, ↓Nat.reduceLeDiff, ↓Int.reduceEq, ↓Int.reduceLT, ↓Int.reduceLE, ↓reduceIte, sameSt, hx, hRx, hEx, hXx, he, hg]
                    first
                      | exact ⟨by ((repeat' split) <;> (change _ = true; kernel_rfl)), (i + 1, true), rfl, ⟨by omega, by omega⟩, by show 30 - (i + 1) < 30 - i; omega⟩
                      | exact ⟨(i + 1, true), rfl, ⟨by omega, by omega⟩, by show 30 - (i + 1) < 30 - i; omega⟩
                · cases b7
                  · cases hsh : tl.any fun x => x.any sharesP
                    · simp -implicitDefEqProofs (maxSteps := 4000000) (disch := omega) only [go_sem, go_sem_proc, dr, Nat.min_def, ↓Nat.reduceBEq, ↓Nat.reduceEqDiff, ↓Nat.reduceLT, ↓Nat.reduceLeDiff, ↓Int.reduceEq, ↓Int.reduceLT, ↓Int.reduceLE, ↓reduceIte, sameSt, hx, hRx, hEx, hXx, he, hg, hsh]
                      first
                        | exact ⟨by ((repeat' split) <;> (change _ = true; kernel_rfl)), (i + 1, false), rfl, ⟨by omega, by omega⟩, by show 30 - (i + 1) < 30 - i; omega⟩
                        | exact ⟨(i + 1, false), rfl, ⟨by omega, by omega⟩, by show 30 - (i + 1) < 30 - i; omega⟩
                    · simp -implicitDefEqProofs (maxSteps := 4000000) (disch := omega) only [go_sem, go_sem_proc, dr, Nat.min_def, ↓Nat.reduceBEq, ↓Nat.reduceEqDiff, ↓Nat.reduceLT, ↓Nat.reduceLeDiff, ↓Int.reduceEq, ↓Int.reduceLT, ↓Int.reduceLE, ↓reduceIte, sameSt, hx, hRx, hEx, hXx, he, hg, hsh]
                      first
                        | exact ⟨by ((repeat' split) <;> (change _ = true; kernel_rfl)), (i + 1, true), rfl, ⟨by omega, by omega⟩, by show 30 - (i + 1) < 30 - i; omega⟩
                        | exact ⟨(i + 1, true), rfl, ⟨by omega, by omega⟩, by show 30 - (i + 1) < 30 - i; omega⟩
                  · simp -implicitDefEqProofs (maxSteps := 4000000) (disch := omega) only [go_sem, go_sem_proc, dr, Nat.min_def, ↓Nat.reduceBEq, ↓Nat.reduceEqDiff, ↓Nat.reduceLT, ↓Nat.reduceLeDiff, ↓Int.reduceEq, ↓Int.reduceLT, ↓Int.reduceLE, ↓reduceIte, sameSt, hx, hRx, hEx, hXx, he, hg]
                    first
                      | exact ⟨by ((repeat' split) <;> (change _ = true; kernel_rfl)), (i + 1, true), rfl, ⟨by omega, by omega⟩, by show 30 - (i + 1) < 30 - i; omega⟩
                      | exact ⟨(i + 1, true), rfl, ⟨by omega, by omega⟩, by show 30 - (i + 1) < 30 - i; omega⟩
            · by_cases hi3 : i < rows.length
              · have hi4 : 30 ≤ i := by omega
                clear hlt
                cases b7 <;> simp -implicitDefEqProofs (maxSteps := 4000000) (disch := omega) only [go_sem, go_sem_proc, dr, Nat.min_def, ↓Nat.reduceBEq, ↓Nat.reduceEqDiff, ↓Nat.reduceLT, ↓Nat.reduceLeDiff, ↓Int.reduceEq, ↓Int.reduceLT, ↓Int.reduceLE, ↓reduceIte, sameSt, h8]
              · clear hlt
                have hi3 : rows.length ≤ i := by omega
                cases b7 <;> simp -implicitDefEqProofs (maxSteps := 4000000) (disch := omega) only [go_sem, go_sem_proc, dr, Nat.min_def, ↓Nat.reduceBEq, ↓Nat.reduceEqDiff, ↓Nat.reduceLT, ↓Nat.reduceLeDiff, ↓Int.reduceEq, ↓Int.reduceLT, ↓Int.reduceLE, ↓reduceIte, sameSt, h8]
      · rw [hpl, plr_cons] at hP
        rw [hpn, hpl, pl_some] at hN hK
        simp only [hpn, hpl, pl_some] at hE
        simp only [List.map_cons] at hN hK hP hE
        clear hpl hpn
        obtain ⟨b0, hb7⟩ : ∃ b0, (sharesLeaf (bl p.val.bytes) || (a.pv.any sharesP || (r.map Prd.pv).any fun x => x.any sharesP)) = b0 := ⟨_, rfl⟩
        · simp -implicitDefEqProofs (maxSteps := 4000000) (disch := omega) only [go_sem, go_sem_proc, dr, Nat.min_def, ↓Nat.reduceBEq, ↓Nat.reduceEqDiff, ↓Nat.reduceLT, ↓Nat.reduceLeDiff, ↓Int.reduceEq, ↓Int.reduceLT, ↓Int.reduceLE, ↓reduceIte, Schema_spec, hP, hN, hK, hb7, hb]
          refine runs_any (fun s : Nat × Bool => sameSt rows s.2 ((schemaN n).map Col.pv) p (.sl 8 (a.pv :: r.map Prd.pv)) ([]) 5 (.h 2097735) ([(2097735, some ⟨true, .row 28 8 (b.pv :: t.map Prd.pv)⟩)]) true key has s.1) (fun s => 30 - s.1) (0, b0) (fun s => s.1 ≤ rows.length ∧ s.1 ≤ 30) ⟨by simp, by simp⟩ ?_ ?_
          · cases b0 <;> simp -implicitDefEqProofs (maxSteps := 4000000) (disch := omega) only [go_sem, go_sem_proc, dr, Nat.min_def, ↓Nat.reduceBEq, ↓Nat.reduceEqDiff, ↓Nat.reduceLT, ↓Nat.reduceLeDiff, ↓Int.reduceEq, ↓Int.reduceLT, ↓Int.reduceLE, ↓reduceIte, sameSt]
          · rintro ⟨i, b7⟩ ⟨hi1, hi2⟩
            dsimp only at hi1 hi2
            by_cases hlt : i < rows.length ∧ i < 30
            · obtain ⟨hi1, hi2⟩ := hlt
              obtain ⟨x, hx, _, _⟩ := take_get hi1
              have hRx := hR x
              have hEx := hE x
              obtain ⟨tl, hrx⟩ := hrh x
              have go : ∀ b, i + 1 ≤ rows.length ∧ i + 1 ≤ 30 := fun b => by omega
              have hXx := hX x
              have hsx := hsem x
              have hkx := fun h => hks' h x
              generalize p.eval (rowN (schemaN n) x) = e at hEx hsx hkx
              generalize f x = g at hXx hsx
              rw [hrx] at hRx hEx hXx
              by_cases he : e = 1
              · have hg : g = 1 := hsx.2 he
                subst he; subst hg
                cases has
                · cases b7
                  · cases hsh : tl.any fun x => x.any sharesP
                    · simp -implicitDefEqProofs (maxSteps := 4000000) (disch := omega) only [go_sem, go_sem_proc, dr, Nat.min_def, ↓Nat.reduceBEq, ↓Nat.reduceEqDiff, ↓Nat.reduceLT, ↓Nat.reduceLeDiff, ↓Int.reduceEq, ↓Int.reduceLT, ↓Int.reduceLE, ↓reduceIte, sameSt, hx, hRx, hEx, hXx, hsh]
                      first
                        | exact ⟨by ((repeat' split) <;> (change _ = true; kernel_rfl)), (i + 1, false), rfl, ⟨by omega, by omega⟩, by show 30 - (i + 1) < 30 - i; omega⟩
                        | exact ⟨(i + 1, false), rfl, ⟨by omega, by omega⟩, by show 30 - (i + 1) < 30 - i; omega⟩
                    · simp -implicitDefEqProofs (maxSteps := 4000000) (disch := omega) only [go_sem, go_sem_proc, dr, Nat.min_def, ↓Nat.reduceBEq, ↓Nat.reduceEqDiff, ↓Nat.reduceLT, ↓Nat.reduceLeDiff, ↓Int.reduceEq, ↓Int.reduceLT, ↓Int.reduceLE, ↓reduceIte, sameSt, hx, hRx, hEx, hXx, hsh]
                      first
                        | exact ⟨by ((repeat' split) <;> (change _ = true; kernel_rfl)), (i + 1, true), rfl, ⟨by omega, by omega⟩, by show 30 - (i + 1) < 30 - i; omega⟩
                        | exact ⟨(i + 1, true), rfl, ⟨by omega, by omega⟩, by show 30 - (i + 1) < 30 - i; omega⟩
                  · simp -implicitDefEqProofs (maxSteps := 4000000) (disch := omega) only [go_sem, go_sem_proc, dr, Nat.min_def, ↓Nat.reduceBEq, ↓Nat.reduceEqDiff, ↓Nat.reduceLT, ↓Nat.reduceLeDiff, ↓Int.reduceEq, ↓Int.reduceLT, ↓Int.reduceLE, ↓reduceIte, sameSt, hx, hRx, hEx, hXx]
                    first
                      | exact ⟨by ((repeat' split) <;> (change _ = true; kernel_rfl)), (i + 1, true), rfl, ⟨by omega, by omega⟩, by show 30 - (i + 1) < 30 - i; omega⟩
                      | exact ⟨(i + 1, true), rfl, ⟨by omega, by omega⟩, by show 30 - (i + 1) < 30 - i; omega⟩
                · have hkk := hkx rfl rfl
                  rw [hkk] at hRx hEx hXx
                  cases b7
                  · cases hsh : tl.any fun x => x.any sharesP
                    · simp -implicitDefEqProofs (maxSteps := 4000000) (disch := omega) only [go_sem, go_sem_proc, dr, Nat.min_def, ↓Nat.reduceBEq, ↓Nat.reduceEqDiff, ↓Nat.reduceLT, ↓Nat.reduceLeDiff, ↓Int.reduceEq, ↓Int.reduceLT, ↓Int.reduceLE, ↓reduceIte, sameSt, hx, hRx, hEx, hXx, hsh]
                      first
                        | exact ⟨by ((repeat' split) <;> (change _ = true; kernel_rfl)), (i + 1, false), rfl, ⟨by omega, by omega⟩, by show 30 - (i + 1) < 30 - i; omega⟩
                        | exact ⟨(i + 1, false), rfl, ⟨by omega, by omega⟩, by show 30 - (i + 1) < 30 - i; omega⟩
                    · simp -implicitDefEqProofs (maxSteps := 4000000) (disch := omega) only [go_sem, go_sem_proc, dr, Nat.min_def, ↓Nat.reduceBEq, ↓Nat.reduceEqDiff, ↓Nat.reduceLT, ↓Nat.reduceLeDiff, ↓Int.reduceEq, ↓Int.reduceLT, ↓Int.reduceLE, ↓reduceIte, sameSt, hx, hRx, hEx, hXx, hsh]
                      first
                        | exact ⟨by ((repeat' split) <;> (change _ = true; kernel_rfl)), (i + 1, true), rfl, ⟨by omega, by omega⟩, by show 30 - (i + 1) < 30 - i; omega⟩
                        | exact ⟨(i + 1, true), rfl, ⟨by omega, by omega⟩, by show 30 - (i + 1) < 30 - i; omega⟩
                  · simp -implicitDefEqProofs (maxSteps := 4000000) (disch := omega) only [go_sem, go_sem_proc, dr, Nat.min_def, ↓Nat.reduceBEq, ↓Nat.reduceEqDiff, ↓Nat.reduceLT, ↓Nat.reduceLeDiff, ↓Int.reduceEq, ↓Int.reduceLT, ↓Int.reduceLE, ↓reduceIte, sameSt, hx, hRx, hEx, hXx]
                    first
                      | exact ⟨by ((repeat' split) <;> (change _ = true; kernel_rfl)), (i + 1, true), rfl, ⟨by omega, by omega⟩, by show 30 - (i + 1) < 30 - i; omega⟩
                      | exact ⟨(i + 1, true), rfl, ⟨by omega, by omega⟩, by show 30 - (i + 1) < 30 - i; omega⟩
              · have hg : ¬ g = 1 := fun h => he (hsx.1 h)
                cases has
                · cases b7
                  · cases hsh : tl.any fun x => x.any sharesP
                    · simp -implicitDefEqProofs (maxSteps := 4000000) (disch := omega) only [go_sem, go_sem_proc, dr, Nat.min_def, ↓Nat.reduceBEq, ↓Nat.reduceEqDiff, ↓Nat.reduceLT, ↓Nat.reduceLeDiff, ↓Int.reduceEq, ↓Int.reduceLT, ↓Int.reduceLE, ↓reduceIte, sameSt, hx, hRx, hEx, hXx, he, hg, hsh]
                      first
                        | exact ⟨by ((repeat' split) <;> (change _ = true; kernel_rfl)), (i + 1, false), rfl, ⟨by omega, by omega⟩, by show 30 - (i + 1) < 30 - i; omega⟩
                        | exact ⟨(i + 1, false), rfl, ⟨by omega, by omega⟩, by show 30 - (i + 1) < 30 - i; omega⟩
                    · simp -implicitDefEqProofs (maxSteps := 4000000) (disch := omega) only [go_sem, go_sem_proc, dr, Nat.min_def, ↓Nat.reduceBEq, ↓Nat.reduceEqDiff, ↓Nat.reduceLT, ↓Nat.reduceLeDiff, ↓Int.reduceEq, ↓Int.reduceLT, ↓Int.reduceLE, ↓reduceIte, sameSt, hx, hRx, hEx, hXx, he, hg, hsh]
                      first
                        | exact ⟨by ((repeat' split) <;> (change _ = true; kernel_rfl)), (i + 1, true), rfl, ⟨by omega, by omega⟩, by show 30 - (i + 1) < 30 - i; omega⟩
                        | exact ⟨(i + 1, true), rfl, ⟨by omega, by omega⟩, by show 30 - (i + 1) < 30 - i; omega⟩
                  · simp -implicitDefEqProofs (maxSteps := 4000000) (disch := omega) only [go_sem, go_sem_proc, dr, Nat.min_def, ↓Nat.reduceBEq, ↓Nat.reduceEqDiff, ↓Nat.reduceLT, ↓Nat.reduceLeDiff, ↓Int.reduceEq, ↓Int.reduceLT, ↓Int.reduceLE, ↓reduceIte, sameSt, hx, hRx, hEx, hXx, he, hg]
                    first
                      | exact ⟨by ((repeat' split) <;> (change _ = true; kernel_rfl)), (i + 1, true), rfl, ⟨by omega, by omega⟩, by show 30 - (i + 1) < 30 - i; omega⟩
                      | exact ⟨(i + 1, true), rfl, ⟨by omega, by omega⟩, by show 30 - (i + 1) < 30 - i; omega⟩
                · cases b7
                  · cases hsh : tl.any fun x => x.any sharesP
                    · simp -implicitDefEqProofs (maxSteps := 4000000) (disch := omega) only [go_sem, go_sem_proc, dr, Nat.min_def, ↓Nat.reduceBEq, ↓Nat.reduceEqDiff, ↓Nat.reduceLT, ↓Nat.reduceLeDiff, ↓Int.reduceEq, ↓Int.reduceLT, ↓Int.reduceLE, ↓reduceIte, sameSt, hx, hRx, hEx, hXx, he, hg, hsh]
                      first
                        | exact ⟨by ((repeat' split) <;> (change _ = true; kernel_rfl)), (i + 1, false), rfl, ⟨by omega, by omega⟩, by show 30 - (i + 1) < 30 - i; omega⟩
                        | exact ⟨(i + 1, false), rfl, ⟨by omega, by omega⟩, by show 30 - (i + 1) < 30 - i; omega⟩
                    · simp -implicitDefEqProofs (maxSteps := 4000000) (disch := omega) only [go_sem, go_sem_proc, dr, Nat.min_def, ↓Nat.reduceBEq, ↓Nat.reduceEqDiff, ↓Nat.reduceLT, ↓Nat.reduceLeDiff, ↓Int.reduceEq, ↓Int.reduceLT, ↓Int.reduceLE, ↓reduceIte, sameSt, hx, hRx, hEx, hXx, he, hg, hsh]
                      first
                        | exact ⟨by ((repeat' split) <;> (change _ = true; kernel_rfl)), (i + 1, true), rfl, ⟨by omega, by omega⟩, by show 30 - (i + 1) < 30 - i; omega⟩
                        | exact ⟨(i + 1, true), rfl, ⟨by omega, by omega⟩, by show 30 - (i + 1) < 30 - i; omega⟩
                  · simp -implicitDefEqProofs (maxSteps := 4000000) (disch := omega) only [go_sem, go_sem_proc, dr, Nat.min_def, ↓Nat.reduceBEq, ↓Nat.reduceEqDiff, ↓Nat.reduceLT, ↓Nat.reduceLeDiff, ↓Int.reduceEq, ↓Int.reduceLT, ↓Int.reduceLE, ↓reduceIte, sameSt, hx, hRx, hEx, hXx, he, hg]
                    first
                      | exact ⟨by ((repeat' split) <;> (change _ = true; kernel_rfl)), (i + 1, true), rfl, ⟨by omega, by omega⟩, by show 30 - (i + 1) < 30 - i; omega⟩
                      | exact ⟨(i + 1, true), rfl, ⟨by omega, by omega⟩, by show 30 - (i + 1) < 30 - i; omega⟩
            · by_cases hi3 : i < rows.length
              · have hi4 : 30 ≤ i := by omega
                clear hlt
                cases b7 <;> simp -implicitDefEqProofs (maxSteps := 4000000) (disch := omega) only [go_sem, go_sem_proc, dr, Nat.min_def, ↓Nat.reduceBEq, ↓Nat.reduceEqDiff, ↓Nat.reduceLT, ↓Nat.reduceLeDiff, ↓Int.reduceEq, ↓Int.reduceLT, ↓Int.reduceLE, ↓reduceIte, sameSt, h8]
              · clear hlt
                have hi3 : rows.length ≤ i := by omega
                cases b7 <;> simp -implicitDefEqProofs (maxSteps := 4000000) (disch := omega) only [go_sem, go_sem_proc, dr, Nat.min_def, ↓Nat.reduceBEq, ↓Nat.reduceEqDiff, ↓Nat.reduceLT, ↓Nat.reduceLeDiff, ↓Int.reduceEq, ↓Int.reduceLT, ↓Int.reduceLE, ↓reduceIte, sameSt, h8]
end Go.Proofs.Ytgnjnkmjcahkeaa.D
