/- Ops of numbers: what the statement's own function comes to, and that they are right. -/
import Derived.Test.YtgbeijemcojnpaaExpr7
import Derived.Test.YtgbeijemcojnpaaPredGen
namespace Go.Proofs.Ytgbeijemcojnpaa.D
open Go Go.Den
set_option linter.unusedSimpArgs false
set_option linter.unusedVariables false
set_option maxRecDepth 20000
set_option maxHeartbeats 8000000
/-! ### how many predicates there are of one (the sum may wrap) -/
mutual
def szP : Prd → Int
  | .mk _ _ _ _ _ l => szL 1 l
def szL : Int → List Prd → Int
  | n, [] => n
  | n, p :: r => szL ((n + szP p + 9223372036854775808) % 18446744073709551616 - 9223372036854775808) r
end
theorem size_spec {p : Prd} (hp : Sl p) : dw E 7 [.agg [.int .i64 p.kind, .int .i64 p.col, .int .i64 p.op, .bool p.val.null, .int .i64 p.val.kind, .int .i64 p.val.int, bl p.val.bytes, pl p.nil p.list]] [] = some (.int .i64 (szP p), []) := by
  induction p using Prd.ind with
  | h k c o v nl l ih =>
    obtain ⟨_, hl, hq⟩ := hp
    have ih := fun q hm => ih q hm (hq q hm)
    simp only [Prd.kind, Prd.col, Prd.op, Prd.val, Prd.nil, Prd.list]
    rw [szP]
    refine dw_in (fn := Try.f7) rfl body7 (by simp) ?_
    simp -implicitDefEqProofs (maxSteps := 4000000) (disch := omega) only [go_sem, go_sem_proc, dr, Nat.min_def, ↓Nat.reduceBEq, ↓Nat.reduceEqDiff, ↓Nat.reduceLT, ↓Nat.reduceLeDiff, ↓Int.reduceEq, ↓Int.reduceLT, ↓Int.reduceLE, ↓reduceIte]
    refine runs_any (fun a : Nat × Int => (⟨[(3, .int .i64 a.2), (7, pl nl l), (8, .int .i64 l.length), (9, .int .i64 a.1)], [], 1⟩ : St)) (fun a => l.length - a.1) (0, 1) (fun a => a.1 ≤ l.length ∧ szL 1 l = szL a.2 (l.drop a.1)) ⟨Nat.zero_le _, rfl⟩ ?_ ?_
    · simp -implicitDefEqProofs (maxSteps := 4000000) (disch := omega) only [go_sem, go_sem_proc, dr, Nat.min_def, ↓Nat.reduceBEq, ↓Nat.reduceEqDiff, ↓Nat.reduceLT, ↓Nat.reduceLeDiff, ↓Int.reduceEq, ↓Int.reduceLT, ↓Int.reduceLE, ↓reduceIte]
    · rintro ⟨i, m⟩ ⟨hi, he⟩
      dsimp only at hi he
      by_cases hlt : i < l.length
      · obtain ⟨q, hq', hqm, _⟩ := take_get hlt
        have hd : l.drop i = q :: l.drop (i + 1) := by rw [List.drop_eq_getElem_cons hlt, (List.getElem?_eq_some_iff.1 hq').2]
        rw [hd, szL] at he
        have hr := ih q hqm
        clear ih hq hd
        generalize szP q = z at hr he
        simp -implicitDefEqProofs (maxSteps := 4000000) (disch := omega) only [go_sem, go_sem_proc, dr, Nat.min_def, ↓Nat.reduceBEq, ↓Nat.reduceEqDiff, ↓Nat.reduceLT, ↓Nat.reduceLeDiff, ↓Int.reduceEq, ↓Int.reduceLT, ↓Int.reduceLE, ↓reduceIte, hq', pl_get hlt, pv_eq, hr]
        exact ⟨(i + 1, (m + z + 9223372036854775808) % 18446744073709551616 - 9223372036854775808), rfl, ⟨hlt, he⟩, by show l.length - (i + 1) < l.length - i; omega⟩
      · have hd : l.drop i = [] := List.drop_eq_nil_of_le (by omega)
        rw [hd, szL] at he
        rw [he]
        clear ih hq hd
        simp -implicitDefEqProofs (maxSteps := 4000000) (disch := omega) only [go_sem, go_sem_proc, dr, Nat.min_def, ↓Nat.reduceBEq, ↓Nat.reduceEqDiff, ↓Nat.reduceLT, ↓Nat.reduceLeDiff, ↓Int.reduceEq, ↓Int.reduceLT, ↓Int.reduceLE, ↓reduceIte]
def rl (n : Bool) (e : TypeId) (sz : Nat) (L : List (List PV)) : PV := if n && L.isEmpty then .nils else .nr e sz L
theorem rl_nil (e : TypeId) (sz : Nat) : rl true e sz [] = .nils := rfl
theorem rl_row (e : TypeId) (sz : Nat) (L : List (List PV)) : rl false e sz L = .nr e sz L := rfl
def rpv (o : OpN) : List PV := [.int .i64 o.kind, rl o.rn 32 4 (o.row.map Val.pv), .int .i64 o.pred.kind, .int .i64 o.pred.col, .int .i64 o.pred.op, .bool o.pred.val.null, .int .i64 o.pred.val.kind, .int .i64 o.pred.val.int, bl o.pred.val.bytes, plr 35 o.pred.list, rl o.sn 45 6 (o.sets.map SetN.pv), rl o.cn 3 1 (o.cols.map intPV), .int .i64 o.group, rl o.an 43 2 (o.aggs.map AggN.pv)]
def keyP (m : Int) : Prd := .mk 2 0 1 ⟨false, 1, m, none⟩ true []
def zP : Prd := .mk 0 0 0 valZ true []
/-- which ops of numbers there are -/
inductive GenF (s : List Col) (p : Prd) : OpN → Prop
  | ins (m : Int) : GenF s p ⟨1, false, rowN s m, zP, true, [], true, [], 0, true, []⟩
  | upd (c : Nat) (q : Col) (m : Int) (ad : Bool) : 0 < c → s[c]? = some q → (ad = true → q.kind = 1 ∧ (valueN q m).null = false) → GenF s p ⟨2, true, [], p, false, [⟨c, ad, valueN q m⟩], true, [], 0, true, []⟩
  | del : GenF s p ⟨3, true, [], p, true, [], true, [], 0, true, []⟩
  | scan (c : Nat) : c < s.length → GenF s p ⟨4, true, [], p, true, [], false, [(c : Int), 0], 0, true, []⟩
  | agg (c : Nat) (g k : Int) : c < s.length → (g = c ∨ g = -1) → (k = 3 ∨ k = 4) → GenF s p ⟨5, true, [], p, true, [], true, [], g, false, [⟨1, 0⟩, ⟨k, c⟩, ⟨2, 0⟩]⟩
  | roll : GenF s p ⟨6, true, [], zP, true, [], true, [], 0, true, []⟩
end Go.Proofs.Ytgbeijemcojnpaa.D
