/- Whether a predicate is right, all of it. -/
import Derived.Test.YtgbeijemcojnpaaR6c
namespace Go.Proofs.Ytgbeijemcojnpaa.D
open Go Go.Den
set_option linter.unusedSimpArgs false
set_option linter.unusedVariables false
set_option maxRecDepth 20000
set_option maxHeartbeats 4000000
mutual
def lookP (s : List Col) : Prd → Int → Int → Bool × Int
  | .mk k c o v _ l, d, n => if d = 0 ∨ 64 < n + 1 ∨ oneB s k c o v l.length = false then (false, n + 1) else lookL s l (d - 1) (n + 1)
def lookL (s : List Col) : List Prd → Int → Int → Bool × Int
  | [], _, n => (true, n)
  | q :: r, d, n => match lookP s q d n with | (true, m) => lookL s r d m | (false, m) => (false, m)
end
theorem ints_zip (k : IntKind) (z : Int) : (ints k [z]).zipIdx = [([PV.int k z], 0)] := rfl
theorem impB_ints (fid j d : Nat) (k : IntKind) (z : Int) : impB fid j [d] (ints k [z]) = some ([(d, .set (.box [PV.int k z]))], j) := rfl
attribute [go_sem] ints_zip impB_ints
theorem lookP_up (s : List Col) (p : Prd) : ∀ d n : Int, 0 ≤ n → n ≤ 64 → 0 ≤ (lookP s p d n).2 ∧ (lookP s p d n).2 ≤ 65 ∧ ((lookP s p d n).1 = true → (lookP s p d n).2 ≤ 64) := by
  induction p using Prd.ind with
  | h k c o v nl l ih =>
    intro d n h0 h64
    rw [lookP]
    split
    · exact ⟨by show 0 ≤ n + 1; omega, by show n + 1 ≤ 65; omega, fun h => by cases h⟩
    · rename_i h
      have hn : n + 1 ≤ 64 := by omega
      have key : ∀ (l' : List Prd), (∀ q ∈ l', q ∈ l) → ∀ m : Int, 0 ≤ m → m ≤ 64 → 0 ≤ (lookL s l' (d - 1) m).2 ∧ (lookL s l' (d - 1) m).2 ≤ 65 ∧ ((lookL s l' (d - 1) m).1 = true → (lookL s l' (d - 1) m).2 ≤ 64) := by
        intro l'
        induction l' with
        | nil => intro _ m h1 h2; rw [lookL]; exact ⟨h1, by show m ≤ 65; omega, fun _ => h2⟩
        | cons q r ihr =>
          intro hm m h1 h2
          have hq := ih q (hm q List.mem_cons_self) (d - 1) m h1 h2
          rw [lookL]
          rcases hr : lookP s q (d - 1) m with ⟨b, m'⟩
          rw [hr] at hq
          cases b with
          | false => exact ⟨hq.1, hq.2.1, fun h => by cases h⟩
          | true => exact ihr (fun x hx => hm x (List.mem_cons_of_mem _ hx)) m' hq.1 (hq.2.2 rfl)
      exact key l (fun q hq => hq) (n + 1) (by omega) hn
theorem look_spec {s : List Col} (hs : s.length ≤ 20) {p : Prd} (hp : Sl p) : ∀ (d n : Int), 0 ≤ d → d ≤ 100 → 0 ≤ n → n ≤ 64 →
    dw E 38 [.agg [.sl 3 (s.map Col.pv)], .agg [.int .i64 p.kind, .int .i64 p.col, .int .i64 p.op, .bool p.val.null, .int .i64 p.val.kind, .int .i64 p.val.int, bl p.val.bytes, pl p.nil p.list], .int .i64 d, .pb 16777216 0] [[.int .i64 n]] = some (.bool (lookP s p d n).1, [[.int .i64 (lookP s p d n).2]]) := by
  induction p using Prd.ind with
  | h k c o v nl l ih =>
    obtain ⟨hb, hl, hq⟩ := hp
    have ih := fun q hm => ih q hm (hq q hm)
    intro d n hd0 hd hn0 hn
    simp only [Prd.kind, Prd.col, Prd.op, Prd.val, Prd.nil, Prd.list]
    have h1 := one_spec (s := s) (k := k) (c := c) (o := o) (v := v) (n := nl) (l := l) hs
    refine dw_in (fn := Try.f38) rfl body38 (by simp) ?_
    rw [lookP]
    by_cases hd' : d = 0
    · subst hd'
      rw [if_pos (.inl rfl)]
      simp -implicitDefEqProofs (maxSteps := 4000000) (disch := omega) only [go_sem, go_sem_proc, dr, Nat.min_def, ↓Nat.reduceBEq, ↓Nat.reduceEqDiff, ↓Nat.reduceLT, ↓Nat.reduceLeDiff, ↓Int.reduceEq, ↓Int.reduceLT, ↓Int.reduceLE, ↓reduceIte]
    · have hd1 : 1 ≤ d := by omega
      clear hd'
      by_cases h65 : 64 < n + 1
      · rw [if_pos (.inr (.inl h65))]
        simp -implicitDefEqProofs (maxSteps := 4000000) (disch := omega) only [go_sem, go_sem_proc, dr, Nat.min_def, ↓Nat.reduceBEq, ↓Nat.reduceEqDiff, ↓Nat.reduceLT, ↓Nat.reduceLeDiff, ↓Int.reduceEq, ↓Int.reduceLT, ↓Int.reduceLE, ↓reduceIte]
      · have hn63 : n ≤ 63 := by omega
        clear h65
        cases ho : oneB s k c o v l.length with
        | false =>
          rw [if_pos (.inr (.inr rfl))]
          rw [ho] at h1
          simp -implicitDefEqProofs (maxSteps := 4000000) (disch := omega) only [go_sem, go_sem_proc, dr, Nat.min_def, ↓Nat.reduceBEq, ↓Nat.reduceEqDiff, ↓Nat.reduceLT, ↓Nat.reduceLeDiff, ↓Int.reduceEq, ↓Int.reduceLT, ↓Int.reduceLE, ↓reduceIte, h1]
        | true =>
          rw [if_neg (by rintro (h | h | h) <;> first | omega | cases h)]
          rw [ho] at h1
          simp -implicitDefEqProofs (maxSteps := 4000000) (disch := omega) only [go_sem, go_sem_proc, dr, Nat.min_def, ↓Nat.reduceBEq, ↓Nat.reduceEqDiff, ↓Nat.reduceLT, ↓Nat.reduceLeDiff, ↓Int.reduceEq, ↓Int.reduceLT, ↓Int.reduceLE, ↓reduceIte, h1]
          refine runs_any (fun a : Nat × Int => (⟨[(2, .int .i64 d), (3, .pb 16777216 0), (4, .pb 1048580 0), (31, pl nl l), (32, .int .i64 l.length), (33, .int .i64 a.1)], [(1048580, some ⟨true, .box [.sl 3 (s.map Col.pv)]⟩), (16777216, some ⟨true, .box [.int .i64 a.2]⟩)], 1⟩ : St)) (fun a => l.length - a.1) (0, n + 1)
            (fun a => a.1 ≤ l.length ∧ 0 ≤ a.2 ∧ a.2 ≤ 64 ∧ lookL s l (d - 1) (n + 1) = lookL s (l.drop a.1) (d - 1) a.2) ⟨Nat.zero_le _, by show 0 ≤ n + 1; omega, by show n + 1 ≤ 64; omega, rfl⟩ ?_ ?_
          · simp -implicitDefEqProofs (maxSteps := 4000000) (disch := omega) only [go_sem, go_sem_proc, dr, Nat.min_def, ↓Nat.reduceBEq, ↓Nat.reduceEqDiff, ↓Nat.reduceLT, ↓Nat.reduceLeDiff, ↓Int.reduceEq, ↓Int.reduceLT, ↓Int.reduceLE, ↓reduceIte]
          · rintro ⟨i, m⟩ ⟨hi, hm0, hm64, he⟩
            dsimp only at hi hm0 hm64 he
            clear h1
            by_cases hlt : i < l.length
            · obtain ⟨q, hq', hqm, _⟩ := take_get hlt
              have hdr : l.drop i = q :: l.drop (i + 1) := by rw [List.drop_eq_getElem_cons hlt, (List.getElem?_eq_some_iff.1 hq').2]
              rw [hdr, lookL] at he
              have hr := ih q hqm (d - 1) m (by omega) (by omega) hm0 hm64
              have hu := lookP_up s q (d - 1) m hm0 hm64
              rcases hx : lookP s q (d - 1) m with ⟨b, m'⟩
              rw [hx] at he hr hu
              dsimp only at he hr hu
              rw [ints_one, ints_one] at hr
              cases b with
              | false =>
                rw [he]
                clear ih hu
                simp -implicitDefEqProofs (maxSteps := 4000000) (disch := omega) only [go_sem, go_sem_proc, dr, Nat.min_def, ↓Nat.reduceBEq, ↓Nat.reduceEqDiff, ↓Nat.reduceLT, ↓Nat.reduceLeDiff, ↓Int.reduceEq, ↓Int.reduceLT, ↓Int.reduceLE, ↓reduceIte, hq', pl_get hlt, pv_eq, hr]
              | true =>
                have hm' := hu.2.2 rfl
                have hm0' := hu.1
                clear ih hu
                simp -implicitDefEqProofs (maxSteps := 4000000) (disch := omega) only [go_sem, go_sem_proc, dr, Nat.min_def, ↓Nat.reduceBEq, ↓Nat.reduceEqDiff, ↓Nat.reduceLT, ↓Nat.reduceLeDiff, ↓Int.reduceEq, ↓Int.reduceLT, ↓Int.reduceLE, ↓reduceIte, hq', pl_get hlt, pv_eq, hr]
                exact ⟨(i + 1, m'), rfl, ⟨hlt, hm0', hm', he⟩, by show l.length - (i + 1) < l.length - i; omega⟩
            · have hdr : l.drop i = [] := List.drop_eq_nil_of_le (by omega)
              rw [hdr, lookL] at he
              rw [he]
              clear ih
              simp -implicitDefEqProofs (maxSteps := 4000000) (disch := omega) only [go_sem, go_sem_proc, dr, Nat.min_def, ↓Nat.reduceBEq, ↓Nat.reduceEqDiff, ↓Nat.reduceLT, ↓Nat.reduceLeDiff, ↓Int.reduceEq, ↓Int.reduceLT, ↓Int.reduceLE, ↓reduceIte]
theorem Ok_spec {s : List Col} (hs : s.length ≤ 20) {p : Prd} (hp : Sl p) : dw E 19 [.agg [.sl 3 (s.map Col.pv)], .agg [.int .i64 p.kind, .int .i64 p.col, .int .i64 p.op, .bool p.val.null, .int .i64 p.val.kind, .int .i64 p.val.int, bl p.val.bytes, pl p.nil p.list]] [] = some (.bool (lookP s p 5 0).1, []) := by
  refine dw_in (fn := Try.f19) rfl body19 (by simp) ?_
  have hl := look_spec hs hp 5 0 (by decide) (by decide) (by decide) (by decide)
  rw [ints_one, ints_one] at hl
  simp -implicitDefEqProofs (maxSteps := 4000000) (disch := omega) only [go_sem, go_sem_proc, dr, Nat.min_def, ↓Nat.reduceBEq, ↓Nat.reduceEqDiff, ↓Nat.reduceLT, ↓Nat.reduceLeDiff, ↓Int.reduceEq, ↓Int.reduceLT, ↓Int.reduceLE, ↓reduceIte, hl]
end Go.Proofs.Ytgbeijemcojnpaa.D
