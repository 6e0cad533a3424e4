/- ExprTells: each op is looked at; a program behind. -/
import Derived.Test.YtgbeijemcojnpaaExpr10
import Derived.Test.YtgbeijemcojnpaaExpr11
namespace Go.Proofs.Ytgbeijemcojnpaa.D
open Go Go.Den
set_option linter.unusedSimpArgs false
set_option linter.unusedVariables false
set_option maxRecDepth 20000
set_option maxHeartbeats 8000000
theorem awake15 : dw E 4 [] [] = some (.bool true, []) := dw_of (k := 300) (by kernel_rfl)
def s11 (c : List (List PV)) : Bool → PV
  | true => .sl 3 c
  | false => .h 2097856
def m11 (c : List (List PV)) : Bool → List (Nat × Option Ent)
  | true => []
  | false => [(2097856, some ⟨true, .row 54 3 c⟩)]
def stT (fb : Bool) (n at' : Int) (l : List Int) (raw : List OpN) (o : OpN) (L : List OpN) (i : Nat) : St := ⟨[(0, .sl 14 (raw.map OpN.pv)), (2, .sl 1 (ints .i64 l)), (3, .int .i64 at'), (11, .pb 1048587 0), (12, .pb 1048588 0), (118, .h 2104704), (119, .int .i64 L.length), (120, .int .i64 i)], ((1048587, some ⟨true, .box [s11 ((schemaN n).map Col.pv) fb]⟩) :: m11 ((schemaN n).map Col.pv) fb) ++ [(1048588, some ⟨true, .box o.pv⟩), (2104704, some ⟨true, .row 39 14 (L.map OpN.pv)⟩)], 1⟩
noncomputable def bodyT : Code := ((Code.region 22 (R Try.f3 22) false).seq
          ((Code.cond (Operand.tmp 121) Code.skip (Code.exit 1)).seq
            ((Code.block 2
                  ((Code.region 23 (R Try.f3 23) false).seq
                    (((Code.region 24 (R Try.f3 24) false).seq
                          (Code.cond (Operand.tmp 145) ((Code.region 25 (R Try.f3 25) false).seq Code.ret)
                            Code.skip)).seq
                      ((Code.region 26 (R Try.f3 26) true).seq
                        (Code.cond (Operand.tmp 153) ((Code.region 27 (R Try.f3 27) false).seq Code.ret)
                          Code.skip))))).seq
              (Code.region 28 (R Try.f3 28) false))))
noncomputable def restT := (leave 1 (next E 3 0 ((Code.region 29 (R Try.f3 29) false).seq ((Code.region 30 (R Try.f3 30) true).seq Code.ret)) (retP E.P Try.f3 0 (PV.bool true, []))))
theorem tells_step {fb : Bool} {n at' : Int} {l : List Int} {raw : List OpN} {o : OpN} {L : List OpN} (hl : raw.length ≤ 20) (hL : L.length ≤ 22) (hO : ∀ y ∈ L, OpOk y ∧ OpBy y) (ho : OpOk o ∧ OpBy o) (hor : exprB (schemaN n) o = true) (hraw : ∀ y ∈ raw, OpOk y ∧ OpBy y) :
    ∀ i : Nat, i ≤ L.length → Runs E 3 0 bodyT (stT fb n at' l raw o L i) (roundQ 0 (E.lv 3 (firstRid bodyT)) (fun i => stT fb n at' l raw o L i) (fun a' => a' ≤ L.length ∧ L.length - a' < L.length - i) restT) := by
  unfold bodyT restT
  intro i hi
  cases fb
  all_goals
   have hs20 : (schemaN n).length ≤ 20 := by have := schemaN_length n; omega
   have hs1 := schemaN_pos n
   have h15 := awake15
   by_cases hlt : i < L.length
   · obtain ⟨y, hy, hym, _⟩ := take_get hlt
     obtain ⟨hok, hby⟩ := hO y hym
     have hsz := size_spec hok.p
     have hE := ExprOp_spec hs20 hs1 hok
     have hR := RefOp_spec hs20 hs1 hok hby
     clear hO ho hor hraw hok hby hym
     generalize exprB (schemaN n) y = eb at hE hR
     rcases Classical.propComplete (200 < szP y.pred) with g1 | g1
     · simp -implicitDefEqProofs (maxSteps := 4000000) (disch := omega) only [go_sem, go_sem_proc, dr, Nat.min_def, ↓Nat.reduceBEq, ↓Nat.reduceEqDiff, ↓Nat.reduceLT, ↓Nat.reduceLeDiff, ↓Int.reduceEq, ↓Int.reduceLT, ↓Int.reduceLE, ↓reduceIte, stT, s11, m11, List.cons_append, List.nil_append, OpN.pv, hy, hsz, hE, hR, g1, h15, bb]
       first | done | ((repeat' split) <;> (change _ = true; kernel_rfl))
     · generalize szP y.pred = z at hsz g1
       obtain ⟨C, hC⟩ : ∃ C : Int, (y.cols.length : Int) = C := ⟨_, rfl⟩
       obtain ⟨A, hA⟩ : ∃ C : Int, (y.aggs.length : Int) = C := ⟨_, rfl⟩
       obtain ⟨Q, hQ⟩ : ∃ C : Int, (y.sets.length : Int) = C := ⟨_, rfl⟩
       obtain ⟨T, hT⟩ : ∃ C : Int, (y.row.length : Int) = C := ⟨_, rfl⟩
       obtain ⟨S, hS⟩ : ∃ S, (((C + A + 9223372036854775808) % 18446744073709551616 - 9223372036854775808 + Q + 9223372036854775808) % 18446744073709551616 - 9223372036854775808 + T + 9223372036854775808) % 18446744073709551616 - 9223372036854775808 = S := ⟨_, rfl⟩
       rcases Classical.propComplete (60 < S) with g2 | g2
       · simp -implicitDefEqProofs (maxSteps := 4000000) (disch := omega) only [go_sem, go_sem_proc, dr, Nat.min_def, ↓Nat.reduceBEq, ↓Nat.reduceEqDiff, ↓Nat.reduceLT, ↓Nat.reduceLeDiff, ↓Int.reduceEq, ↓Int.reduceLT, ↓Int.reduceLE, ↓reduceIte, stT, s11, m11, List.cons_append, List.nil_append, OpN.pv, hy, hsz, hE, hR, g1, hC, hA, hQ, hT, hS, g2, h15, bb]
         first | done | ((repeat' split) <;> (change _ = true; kernel_rfl))
       · cases eb
         all_goals
           simp -implicitDefEqProofs (maxSteps := 4000000) (disch := omega) only [go_sem, go_sem_proc, dr, Nat.min_def, ↓Nat.reduceBEq, ↓Nat.reduceEqDiff, ↓Nat.reduceLT, ↓Nat.reduceLeDiff, ↓Int.reduceEq, ↓Int.reduceLT, ↓Int.reduceLE, ↓reduceIte, stT, s11, m11, List.cons_append, List.nil_append, OpN.pv, hy, hsz, hE, hR, g1, hC, hA, hQ, hT, hS, g2, h15, bb]
           first | done | exact ⟨i + 1, rfl, hlt, by omega⟩ | exact ⟨by ((repeat' split) <;> (change _ = true; kernel_rfl)), i + 1, rfl, hlt, by omega⟩
   · have hi' : i = L.length := by omega
     subst hi'
     obtain ⟨b, hb⟩ : ∃ b : Nat, at' / 8 % 64 = b := Int.eq_ofNat_of_zero_le (by omega)
     obtain ⟨k, hk⟩ : ∃ k : Nat, (k : Int) = (if at' % 8 < 6 then at' % 8 else 6) := by
       obtain ⟨k, hk⟩ := Int.eq_ofNat_of_zero_le (show 0 ≤ (if at' % 8 < 6 then at' % 8 else 6) by split <;> omega)
       exact ⟨k, hk.symm⟩
     have hk6 : k ≤ 6 := by split at hk <;> omega
     have hG := GenProgram_spec (m := n) (l := l) hb hk
     have hgen : ∀ q ∈ genProg n l b k, exprB (schemaN n) q = true ∧ OpOk q ∧ OpBy q := fun q hq => by
       obtain ⟨j, hj, rfl⟩ := List.mem_map.1 hq
       exact genOp_right n l (b + j) (by simp at hj; omega)
     have hpl := genProg_len n l b k
     generalize genProg n l b k = G at hG hgen hpl
     have hP : ∀ q ∈ G ++ raw, OpOk q ∧ OpBy q := fun q hq => by
       rcases List.mem_append.1 hq with h | h
       · exact (hgen q h).2
       · exact hraw q h
     have hE := ExprProgram_spec (n := false) (l := G ++ raw) hs20 hs1 (by rw [List.length_append]; omega) (fun q hq => (hP q hq).1)
     have hR := RefProgram_spec (n := false) (l := G ++ raw) hs20 hs1 (by rw [List.length_append]; omega) hP
     have hR2 := RefProgram_spec (n := false) (l := G) hs20 hs1 (by omega) (fun q hq => (hgen q hq).2)
     have hpt : progB (schemaN n) G = true := by
       unfold progB
       rw [decide_eq_true (by omega), Bool.true_and, Bool.not_eq_true']
       rw [List.any_eq_false]
       intro q hq
       rw [(hgen q hq).1]
       decide
     rw [hpt] at hR2
     rw [sf_row, List.map_append] at hE hR
     rw [sf_row] at hR2
     have hRo := RefOp_spec hs20 hs1 ho.1 ho.2
     rw [hor] at hRo
     have hOk := RefOk_spec (m := n)
     clear hO ho hor hraw hgen hP hb hk hpt
     generalize progB (schemaN n) (G ++ raw) = pb at hE hR
     simp -implicitDefEqProofs (maxSteps := 4000000) (disch := omega) only [go_sem, go_sem_proc, dr, Nat.min_def, ↓Nat.reduceBEq, ↓Nat.reduceEqDiff, ↓Nat.reduceLT, ↓Nat.reduceLeDiff, ↓Int.reduceEq, ↓Int.reduceLT, ↓Int.reduceLE, ↓reduceIte, stT, s11, m11, List.cons_append, List.nil_append, OpN.pv, hG, hE, hR, hR2, hRo, hOk, h15, hpl, bb]
     cases pb <;> (first | done | ((repeat' split) <;> (change _ = true; kernel_rfl)))
end Go.Proofs.Ytgbeijemcojnpaa.D
