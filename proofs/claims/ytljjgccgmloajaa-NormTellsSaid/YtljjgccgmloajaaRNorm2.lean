/- One form as the document says it: the ways in which it may be so. -/
import Derived.Test.YtljjgccgmloajaaRNorm1
namespace Go.Proofs.Ytljjgccgmloajaa.D
open Go Go.Den
set_option linter.unusedSimpArgs false
set_option linter.unusedVariables false
set_option maxRecDepth 20000
set_option maxHeartbeats 8000000
def orW : List (Option Al) → Al → Option Al
  | [], out => some out
  | none :: _, _ => none
  | some l :: r, out => if 32 < out.length + l.length then none else orW r (out ++ l)
def andW : List (Option Al) → Al → Option Al
  | [], out => some out
  | none :: _, _ => none
  | some l :: r, out => if 32 < (out.length : Int) * l.length then none else if okLen (crossN out l) = false then none else andW r (crossN out l)
mutual
def waysN : Prd → Option Al
  | .mk k c o v n l => if k = 5 then orW (wayss l) [] else if k = 4 then andW (wayss l) [(true, [])] else some [(false, [.mk k c o v n l])]
def wayss : List Prd → List (Option Al)
  | [] => []
  | p :: r => waysN p :: wayss r
end
theorem wayss_map (l : List Prd) : wayss l = l.map waysN := by
  induction l with
  | nil => rfl
  | cons p r ih => rw [wayss, ih, List.map_cons]
theorem ways_mk (k c o : Int) (v : Val) (n : Bool) (l : List Prd) : waysN (.mk k c o v n l) = if k = 5 then orW (l.map waysN) [] else if k = 4 then andW (l.map waysN) [(true, [])] else some [(false, [.mk k c o v n l])] := by
  rw [waysN, wayss_map]
def WB (A : Al) : Prop := A.length ≤ 32 ∧ ∀ c ∈ A, c.2.length ≤ 32
theorem okLen_iff {A : Al} : okLen A = true ↔ ∀ c ∈ A, c.2.length ≤ 32 := by
  simp only [okLen, List.all_eq_true, decide_eq_true_eq]
  exact forall_congr' fun c => forall_congr' fun _ => by omega
theorem orW_wb : ∀ (xs : List (Option Al)) (out A : Al), (∀ x ∈ xs, ∀ B, x = some B → WB B) → WB out → orW xs out = some A → WB A := by
  intro xs
  induction xs with
  | nil => intro out A _ h e; rw [orW] at e; injection e with e; subst e; exact h
  | cons x r ih =>
    intro out A hx h e
    cases x with
    | none => rw [orW] at e; cases e
    | some l =>
      rw [orW] at e
      split at e
      · cases e
      · have hl := hx _ List.mem_cons_self l rfl
        refine ih _ _ (fun y hy => hx y (List.mem_cons_of_mem _ hy)) ⟨by rw [List.length_append]; omega, fun c hc => ?_⟩ e
        rcases List.mem_append.1 hc with hc | hc
        · exact h.2 c hc
        · exact hl.2 c hc
theorem andW_wb : ∀ (xs : List (Option Al)) (out A : Al), WB out → andW xs out = some A → WB A := by
  intro xs
  induction xs with
  | nil => intro out A h e; rw [andW] at e; injection e with e; subst e; exact h
  | cons x r ih =>
    intro out A h e
    cases x with
    | none => rw [andW] at e; cases e
    | some l =>
      rw [andW] at e
      split at e
      · cases e
      split at e
      · cases e
      · rename_i h1 h2
        refine ih _ _ ⟨?_, okLen_iff.1 (by simpa using h2)⟩ e
        rw [crossN_len]
        rw [← Int.natCast_mul] at h1
        omega
theorem ways_wb {p : Prd} : ∀ A, waysN p = some A → WB A := by
  induction p using Prd.ind with
  | h k c o v n l ih =>
    intro A e
    rw [ways_mk] at e
    split at e
    · refine orW_wb _ _ _ (fun x hx B hB => ?_) ⟨by simp, by simp⟩ e
      obtain ⟨q, hq, rfl⟩ := List.mem_map.1 hx
      exact ih q hq B hB
    split at e
    · exact andW_wb _ _ _ ⟨by simp, by simp⟩ e
    · injection e with e; subst e
      exact ⟨by simp, fun c hc => by simp at hc; subst hc; simp⟩
def wayPV (T : TypeId) : Option Al → PV
  | some A => .tup [.nr T 1 (A.map cv), .bool true]
  | none => .tup [.nils, .bool false]
theorem drop_cons {α : Type} {l : List α} {i : Nat} {x : α} (h : l[i]? = some x) : l.drop i = x :: l.drop (i + 1) := by
  obtain ⟨hi, e⟩ := List.getElem?_eq_some_iff.1 h
  rw [List.drop_eq_getElem_cons hi, e]
theorem ways_spec {p : Prd} (hp : Sm p) : dw E 19 [.agg [.int .i64 p.kind, .int .i64 p.col, .int .i64 p.op, .bool p.val.null, .int .i64 p.val.kind, .int .i64 p.val.int, bl p.val.bytes, pl p.nil p.list]] [] = some (wayPV 30 (waysN p), []) := by
  induction p using Prd.ind with
  | h k c o v n l ih =>
    obtain ⟨hb, hl, hq⟩ := hp
    have ih := fun q hm => ih q hm (hq q hm)
    rw [ways_mk]
    simp only [Prd.kind, Prd.col, Prd.op, Prd.val, Prd.nil, Prd.list]
    by_cases h5 : k = 5
    · subst h5
      rw [if_pos rfl]
      refine dw_in (fn := Try.f19) rfl body19 (by simp) ?_
      simp -implicitDefEqProofs (maxSteps := 4000000) (disch := omega) only [go_sem, go_sem_proc, dr, Nat.min_def, ↓Nat.reduceBEq, ↓Nat.reduceEqDiff, ↓Nat.reduceLT, ↓Nat.reduceLeDiff, ↓Int.reduceEq, ↓Int.reduceLT, ↓Int.reduceLE, ↓reduceIte]
      refine runs_any (fun s : Nat × Al => (⟨[(1, .pb 1048577 0), (4, .h 2097408), (5, .int .i64 s.1)], [(1048577, some ⟨true, .box [.int .i64 5, .int .i64 c, .int .i64 o, .bool v.null, .int .i64 v.kind, .int .i64 v.int, bl v.bytes, pl n l]⟩), (2097408, some ⟨true, .row 30 1 (s.2.map cv)⟩)], 1⟩ : St)) (fun s => l.length - s.1) (0, [])
        (fun s => s.1 ≤ l.length ∧ s.2.length ≤ 32 ∧ orW (l.map waysN) [] = orW ((l.drop s.1).map waysN) s.2) ⟨Nat.zero_le _, by simp, by simp⟩ ?_ ?_
      · simp -implicitDefEqProofs (maxSteps := 4000000) (disch := omega) only [go_sem, go_sem_proc, dr, Nat.min_def, ↓Nat.reduceBEq, ↓Nat.reduceEqDiff, ↓Nat.reduceLT, ↓Nat.reduceLeDiff, ↓Int.reduceEq, ↓Int.reduceLT, ↓Int.reduceLE, ↓reduceIte]
      · rintro ⟨i, out⟩ ⟨hi, ho, he⟩
        dsimp only at hi ho he
        by_cases hlt : i < l.length
        · obtain ⟨q, hq, hqm, _⟩ := take_get hlt
          rw [drop_cons hq, List.map_cons] at he
          have hw := ih q hqm
          cases hA : waysN q with
          | none =>
            rw [hA, orW] at he
            rw [hA] at hw
            simp only [wayPV] at hw
            simp -implicitDefEqProofs (maxSteps := 4000000) (disch := omega) only [go_sem, go_sem_proc, dr, Nat.min_def, ↓Nat.reduceBEq, ↓Nat.reduceEqDiff, ↓Nat.reduceLT, ↓Nat.reduceLeDiff, ↓Int.reduceEq, ↓Int.reduceLT, ↓Int.reduceLE, ↓reduceIte, hq, pl_get hlt, pv_eq, hw, he, wayPV]
          | some A =>
            rw [hA, orW] at he
            rw [hA] at hw
            obtain ⟨hA1, _⟩ := ways_wb A hA
            simp only [wayPV] at hw
            by_cases h32 : 32 < out.length + A.length
            · rw [if_pos h32] at he
              simp -implicitDefEqProofs (maxSteps := 4000000) (disch := omega) only [go_sem, go_sem_proc, dr, Nat.min_def, ↓Nat.reduceBEq, ↓Nat.reduceEqDiff, ↓Nat.reduceLT, ↓Nat.reduceLeDiff, ↓Int.reduceEq, ↓Int.reduceLT, ↓Int.reduceLE, ↓reduceIte, hq, pl_get hlt, pv_eq, hw, he, wayPV]
            · rw [if_neg h32] at he
              have h32 : out.length + A.length ≤ 32 := by omega
              simp -implicitDefEqProofs (maxSteps := 4000000) (disch := omega) only [go_sem, go_sem_proc, dr, Nat.min_def, ↓Nat.reduceBEq, ↓Nat.reduceEqDiff, ↓Nat.reduceLT, ↓Nat.reduceLeDiff, ↓Int.reduceEq, ↓Int.reduceLT, ↓Int.reduceLE, ↓reduceIte, hq, pl_get hlt, pv_eq, hw]
              exact ⟨(i + 1, out ++ A), by simp only [List.map_append]; rfl, ⟨by omega, by simp only [List.length_append]; omega, he⟩, by show l.length - (i + 1) < l.length - i; omega⟩
        · have hd : l.drop i = [] := List.drop_eq_nil_of_le (by omega)
          rw [hd, List.map_nil, orW] at he
          simp -implicitDefEqProofs (maxSteps := 4000000) (disch := omega) only [go_sem, go_sem_proc, dr, Nat.min_def, ↓Nat.reduceBEq, ↓Nat.reduceEqDiff, ↓Nat.reduceLT, ↓Nat.reduceLeDiff, ↓Int.reduceEq, ↓Int.reduceLT, ↓Int.reduceLE, ↓reduceIte, he, wayPV]
    rw [if_neg h5]
    by_cases h4 : k = 4
    · subst h4
      rw [if_pos rfl]
      refine dw_in (fn := Try.f19) rfl body19 (by simp) ?_
      simp -implicitDefEqProofs (maxSteps := 4000000) (disch := omega) only [go_sem, go_sem_proc, dr, Nat.min_def, ↓Nat.reduceBEq, ↓Nat.reduceEqDiff, ↓Nat.reduceLT, ↓Nat.reduceLeDiff, ↓Int.reduceEq, ↓Int.reduceLT, ↓Int.reduceLE, ↓reduceIte]
      refine runs_any (fun s : Nat × Al => (⟨[(1, .pb 1048577 0), (8, .h 2097664), (9, .int .i64 s.1)], [(1048577, some ⟨true, .box [.int .i64 4, .int .i64 c, .int .i64 o, .bool v.null, .int .i64 v.kind, .int .i64 v.int, bl v.bytes, pl n l]⟩), (2097664, some ⟨true, .row 30 1 (s.2.map cv)⟩)], 1⟩ : St)) (fun s => l.length - s.1) (0, [(true, [])])
        (fun s => s.1 ≤ l.length ∧ WB s.2 ∧ andW (l.map waysN) [(true, [])] = andW ((l.drop s.1).map waysN) s.2) ⟨Nat.zero_le _, ⟨by simp, by simp⟩, by simp⟩ ?_ ?_
      · simp -implicitDefEqProofs (maxSteps := 4000000) (disch := omega) only [go_sem, go_sem_proc, dr, Nat.min_def, ↓Nat.reduceBEq, ↓Nat.reduceEqDiff, ↓Nat.reduceLT, ↓Nat.reduceLeDiff, ↓Int.reduceEq, ↓Int.reduceLT, ↓Int.reduceLE, ↓reduceIte, cv, pl_nil]
      · rintro ⟨i, out⟩ ⟨hi, ho, he⟩
        dsimp only at hi ho he
        by_cases hlt : i < l.length
        · obtain ⟨q, hq, hqm, _⟩ := take_get hlt
          rw [drop_cons hq, List.map_cons] at he
          have hw := ih q hqm
          cases hA : waysN q with
          | none =>
            rw [hA, andW] at he
            rw [hA] at hw
            simp only [wayPV] at hw
            have ho1 := ho.1
            simp -implicitDefEqProofs (maxSteps := 4000000) (disch := omega) only [go_sem, go_sem_proc, dr, Nat.min_def, ↓Nat.reduceBEq, ↓Nat.reduceEqDiff, ↓Nat.reduceLT, ↓Nat.reduceLeDiff, ↓Int.reduceEq, ↓Int.reduceLT, ↓Int.reduceLE, ↓reduceIte, hq, pl_get hlt, pv_eq, hw, he, wayPV]
          | some A =>
            rw [hA, andW] at he
            rw [hA] at hw
            obtain ⟨hA1, hA2⟩ := ways_wb A hA
            simp only [wayPV] at hw
            obtain ⟨ho1, ho2⟩ := ho
            have h0 : 0 ≤ (out.length : Int) * A.length := Int.mul_nonneg (by omega) (by omega)
            have hmx := Nat.mul_le_mul ho1 hA1
            have hmx : (out.length : Int) * A.length ≤ 1024 := by rw [← Int.natCast_mul]; omega
            by_cases h32 : 32 < (out.length : Int) * A.length
            · rw [if_pos h32] at he
              simp -implicitDefEqProofs (maxSteps := 4000000) (disch := omega) only [go_sem, go_sem_proc, dr, Nat.min_def, ↓Nat.reduceBEq, ↓Nat.reduceEqDiff, ↓Nat.reduceLT, ↓Nat.reduceLeDiff, ↓Int.reduceEq, ↓Int.reduceLT, ↓Int.reduceLE, ↓reduceIte, hq, pl_get hlt, pv_eq, hw, he, wayPV]
            · rw [if_neg h32] at he
              have h32 : (out.length : Int) * A.length ≤ 32 := by omega
              simp -implicitDefEqProofs (maxSteps := 4000000) (disch := omega) only [go_sem, go_sem_proc, dr, Nat.min_def, ↓Nat.reduceBEq, ↓Nat.reduceEqDiff, ↓Nat.reduceLT, ↓Nat.reduceLeDiff, ↓Int.reduceEq, ↓Int.reduceLT, ↓Int.reduceLE, ↓reduceIte, hq, pl_get hlt, pv_eq, hw]
              clear hw hq ih hb hA
              refine runs_any (fun a : Nat => (⟨[(1, .pb 1048577 0), (8, .h 2097664), (9, .int .i64 i), (10, .h 2097792), (12, .h 2097920), (13, .int .i64 a)], [(1048577, some ⟨true, .box [.int .i64 4, .int .i64 c, .int .i64 o, .bool v.null, .int .i64 v.kind, .int .i64 v.int, bl v.bytes, .sl 8 (l.map Prd.pv)]⟩), (2097664, some ⟨true, .row 30 1 (out.map cv)⟩), (2097792, some ⟨true, .row 30 1 (A.map cv)⟩), (2097920, some ⟨true, .row 30 1 ((crossN (out.take a) A).map cv)⟩)], 1⟩ : St)) (fun a => out.length - a) 0
                (fun a => a ≤ out.length ∧ okLen (crossN (out.take a) A) = true) ⟨Nat.zero_le _, rfl⟩ ?_ ?_
              · simp -implicitDefEqProofs (maxSteps := 4000000) (disch := omega) only [go_sem, go_sem_proc, dr, Nat.min_def, ↓Nat.reduceBEq, ↓Nat.reduceEqDiff, ↓Nat.reduceLT, ↓Nat.reduceLeDiff, ↓Int.reduceEq, ↓Int.reduceLT, ↓Int.reduceLE, ↓reduceIte, crossN_nil]
              · rintro a ⟨ha, hok⟩
                by_cases hla : a < out.length
                · obtain ⟨x, hx, hxm, htx⟩ := take_get hla
                  have hxl := ho2 x hxm
                  simp -implicitDefEqProofs (maxSteps := 4000000) (disch := omega) only [go_sem, go_sem_proc, dr, Nat.min_def, ↓Nat.reduceBEq, ↓Nat.reduceEqDiff, ↓Nat.reduceLT, ↓Nat.reduceLeDiff, ↓Int.reduceEq, ↓Int.reduceLT, ↓Int.reduceLE, ↓reduceIte, hx, cv]
                  refine runs_any (fun b : Nat => (⟨[(1, .pb 1048577 0), (8, .h 2097664), (9, .int .i64 i), (10, .h 2097792), (12, .h 2097920), (13, .int .i64 a), (14, .int .i64 b)], [(1048577, some ⟨true, .box [.int .i64 4, .int .i64 c, .int .i64 o, .bool v.null, .int .i64 v.kind, .int .i64 v.int, bl v.bytes, .sl 8 (l.map Prd.pv)]⟩), (2097664, some ⟨true, .row 30 1 (out.map cv)⟩), (2097792, some ⟨true, .row 30 1 (A.map cv)⟩), (2097920, some ⟨true, .row 30 1 ((partN out A a x b).map cv)⟩)], 1⟩ : St)) (fun b => A.length - b) 0
                    (fun b => b ≤ A.length ∧ okLen (partN out A a x b) = true) ⟨Nat.zero_le _, by rw [part_zero]; exact hok⟩ ?_ ?_
                  · simp -implicitDefEqProofs (maxSteps := 4000000) (disch := omega) only [go_sem, go_sem_proc, dr, Nat.min_def, ↓Nat.reduceBEq, ↓Nat.reduceEqDiff, ↓Nat.reduceLT, ↓Nat.reduceLeDiff, ↓Int.reduceEq, ↓Int.reduceLT, ↓Int.reduceLE, ↓reduceIte, part_zero]
                  · rintro b ⟨hb, hokb⟩
                    by_cases hlb : b < A.length
                    · obtain ⟨y, hy, hym, hty⟩ := take_get hlb
                      have hyl := hA2 y hym
                      have hpl := part_len (A := out) (B := A) x hla hlb
                      have hpl : (partN out A a x b).length + 1 ≤ 32 := by
                        have : ((out.length * A.length : Nat) : Int) ≤ 32 := by rw [Int.natCast_mul]; exact h32
                        omega
                      have hps := part_succ out a x hty
                      by_cases hz : 32 < x.2.length + y.2.length
                      · have hbad : okLen (crossN out A) = false := by
                          cases hh : okLen (crossN out A) with
                          | false => rfl
                          | true =>
                            have := okLen_iff.1 hh (false, x.2 ++ y.2) (by simp only [crossN, List.mem_flatMap, List.mem_map]; exact ⟨x, hxm, y, hym, rfl⟩)
                            simp only [List.length_append] at this
                            omega
                        rw [if_pos hbad] at he
                        simp -implicitDefEqProofs (maxSteps := 4000000) (disch := omega) only [go_sem, go_sem_proc, dr, Nat.min_def, ↓Nat.reduceBEq, ↓Nat.reduceEqDiff, ↓Nat.reduceLT, ↓Nat.reduceLeDiff, ↓Int.reduceEq, ↓Int.reduceLT, ↓Int.reduceLE, ↓reduceIte, hx, hy, cv, he, wayPV]
                        first | done | ((repeat' split) <;> (change _ = true; kernel_rfl))
                      · have hz : x.2.length + y.2.length ≤ 32 := by omega
                        have hok2 : okLen (partN out A a x (b + 1)) = true := by rw [hps, okLen_snoc, hokb]; simp; omega
                        simp -implicitDefEqProofs (maxSteps := 4000000) (disch := omega) only [go_sem, go_sem_proc, dr, Nat.min_def, ↓Nat.reduceBEq, ↓Nat.reduceEqDiff, ↓Nat.reduceLT, ↓Nat.reduceLeDiff, ↓Int.reduceEq, ↓Int.reduceLT, ↓Int.reduceLE, ↓reduceIte, hx, hy, cv]
                        refine ⟨by ((repeat' split) <;> (change _ = true; kernel_rfl)), b + 1, ?_, ⟨hlb, hok2⟩, by omega⟩
                        simp only [hps, List.map_append, List.map_cons, List.map_nil, cv, pl_false]
                        rfl
                    · have hb' : b = A.length := by omega
                      subst hb'
                      have hpf := part_full A htx
                      rw [← hpf] at hokb
                      simp -implicitDefEqProofs (maxSteps := 4000000) (disch := omega) only [go_sem, go_sem_proc, dr, Nat.min_def, ↓Nat.reduceBEq, ↓Nat.reduceEqDiff, ↓Nat.reduceLT, ↓Nat.reduceLeDiff, ↓Int.reduceEq, ↓Int.reduceLT, ↓Int.reduceLE, ↓reduceIte]
                      exact ⟨a + 1, by rw [hpf]; rfl, ⟨hla, hokb⟩, by omega⟩
                · have ha' : a = out.length := by omega
                  subst ha'
                  rw [List.take_length] at hok ⊢
                  rw [if_neg (by simp [hok])] at he
                  have hcl : (crossN out A).length ≤ 32 := by
                    rw [crossN_len]
                    have : ((out.length * A.length : Nat) : Int) ≤ 32 := by rw [Int.natCast_mul]; exact h32
                    omega
                  simp -implicitDefEqProofs (maxSteps := 4000000) (disch := omega) only [go_sem, go_sem_proc, dr, Nat.min_def, ↓Nat.reduceBEq, ↓Nat.reduceEqDiff, ↓Nat.reduceLT, ↓Nat.reduceLeDiff, ↓Int.reduceEq, ↓Int.reduceLT, ↓Int.reduceLE, ↓reduceIte, pl_get hlt]
                  exact ⟨(i + 1, crossN out A), rfl, ⟨by omega, ⟨hcl, okLen_iff.1 hok⟩, he⟩, by show l.length - (i + 1) < l.length - i; omega⟩
        · have hd : l.drop i = [] := List.drop_eq_nil_of_le (by omega)
          rw [hd, List.map_nil, andW] at he
          simp -implicitDefEqProofs (maxSteps := 4000000) (disch := omega) only [go_sem, go_sem_proc, dr, Nat.min_def, ↓Nat.reduceBEq, ↓Nat.reduceEqDiff, ↓Nat.reduceLT, ↓Nat.reduceLeDiff, ↓Int.reduceEq, ↓Int.reduceLT, ↓Int.reduceLE, ↓reduceIte, he, wayPV]
    · rw [if_neg h4]
      have h4 := eq_false h4
      have h5 := eq_false h5
      refine dw_in (fn := Try.f19) rfl body19 (by simp) ?_
      simp -implicitDefEqProofs (maxSteps := 4000000) (disch := omega) only [go_sem, go_sem_proc, dr, Nat.min_def, ↓Nat.reduceBEq, ↓Nat.reduceEqDiff, ↓Nat.reduceLT, ↓Nat.reduceLeDiff, ↓Int.reduceEq, ↓Int.reduceLT, ↓Int.reduceLE, ↓reduceIte, h4, h5, wayPV, cv, pl_false, pv_mk]
end Go.Proofs.Ytljjgccgmloajaa.D
