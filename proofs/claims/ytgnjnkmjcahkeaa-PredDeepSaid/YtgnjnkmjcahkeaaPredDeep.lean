/- PredDeep: what the law comes to. -/
import Derived.Test.YtgnjnkmjcahkeaaPred4
import Derived.Test.YtgnjnkmjcahkeaaPredLaws
namespace Go.Proofs.Ytgnjnkmjcahkeaa.D
open Go Go.Den
set_option linter.unusedSimpArgs false
set_option linter.unusedVariables false
set_option maxRecDepth 20000
set_option maxHeartbeats 8000000
def ttP : Prd := .mk 1 0 0 valZ true []
def zzP : Prd := .mk 0 0 0 valZ true []
theorem tt_pv : ttP.pv = [.int .i64 1, .int .i64 0, .int .i64 0, .bool false, .int .i64 0, .int .i64 0, .nils, .nils] := by rw [ttP, pv_mk]; rfl
theorem zz_pv : zzP.pv = [.int .i64 0, .int .i64 0, .int .i64 0, .bool false, .int .i64 0, .int .i64 0, .nils, .nils] := by rw [zzP, pv_mk]; rfl
theorem tt_Sm : Sm ttP := .mk (by simp [valZ, bz]) (by simp) (by simp)
theorem mk_Sm {k : Int} {l : List Prd} (hl : l.length ≤ 1000000) (h : ∀ q ∈ l, Sm q) : Sm (.mk k 0 0 valZ false l) := .mk (by simp [valZ, bz]) hl h
theorem oneB_still (s : List Col) (k c o : Int) (v : Val) (n : Nat) : oneB s k c o ⟨v.null, v.kind, v.int, some (bz v.bytes)⟩ n = oneB s k c o v n := rfl
theorem lookP_still (s : List Col) (p : Prd) : ∀ d n : Int, lookP s p.still d n = lookP s p d n := by
  induction p using Prd.ind with
  | h k c o v nl l ih =>
    intro d n
    have key : ∀ (l' : List Prd), (∀ q ∈ l', q ∈ l) → ∀ d m : Int, lookL s (l'.map Prd.still) d m = lookL s l' d m := by
      intro l'
      induction l' with
      | nil => intro _ d m; rfl
      | cons q r ihr =>
        intro hm d m
        rw [List.map_cons, lookL, lookL, ih q (hm q List.mem_cons_self)]
        rcases lookP s q d m with ⟨b, m'⟩
        cases b
        · rfl
        · exact ihr (fun x hx => hm x (List.mem_cons_of_mem _ hx)) d m'
    rw [still_mk, lookP, lookP, List.length_map, oneB_still, key l (fun q hq => hq)]
def Deep (s : List Col) (i : Nat) (x : Prd) : Prop := ∀ d n : Int, 0 ≤ d → 0 ≤ n → n + 2 * i + 1 ≤ 64 →
  (lookP s x d n).1 = decide ((i : Int) < d) ∧ ((i : Int) < d → n ≤ (lookP s x d n).2 ∧ (lookP s x d n).2 ≤ n + 2 * i + 1)
theorem look_mk (s : List Col) (k : Int) (l : List Prd) (d n : Int) (ho : oneB s k 0 0 valZ l.length = true) (hn : n + 1 ≤ 64) (b : Bool) : lookP s (.mk k 0 0 valZ b l) d n = if d = 0 then (false, n + 1) else lookL s l (d - 1) (n + 1) := by
  rw [lookP, ho]
  by_cases h : d = 0
  · rw [if_pos (.inl h), if_pos h]
  · rw [if_neg (by rintro (h1 | h1 | h1) <;> first | exact h h1 | omega | cases h1), if_neg h]
theorem deep_tt (s : List Col) : Deep s 0 ttP := by
  intro d n hd hn h64
  rw [ttP, look_mk s 1 [] d n rfl (by omega)]
  by_cases h : d = 0
  · rw [if_pos h]; subst h; exact ⟨rfl, fun h => by simp at h⟩
  · rw [if_neg h, lookL]
    refine ⟨?_, fun _ => ⟨by show n ≤ n + 1; omega, by show n + 1 ≤ _; omega⟩⟩
    show true = _
    simp; omega
theorem deep_one {s : List Col} {i : Nat} {x : Prd} (k : Int) (hk : k = 4 ∨ k = 6) (h : Deep s i x) : Deep s (i + 1) (.mk k 0 0 valZ false [x.still]) := by
  intro d n hd hn h64
  have ho : oneB s k 0 0 valZ [x.still].length = true := by rcases hk with rfl | rfl <;> rfl
  rw [look_mk s k _ d n ho (by omega)]
  by_cases h0 : d = 0
  · rw [if_pos h0]; subst h0; refine ⟨?_, fun h => by omega⟩
    show false = _; simp; omega
  · rw [if_neg h0, lookL, lookP_still]
    have := h (d - 1) (n + 1) (by omega) (by omega) (by omega)
    rcases hx : lookP s x (d - 1) (n + 1) with ⟨b, m⟩
    rw [hx] at this
    dsimp only at this
    cases b with
    | false =>
      refine ⟨?_, fun h => ?_⟩
      · show false = _; rw [this.1]; simp; omega
      · exact absurd this.1 (by simp; omega)
    | true =>
      have h1 : (i : Int) < d - 1 := by simpa using this.1.symm
      have h2 := this.2 h1
      dsimp only
      rw [lookL]
      refine ⟨?_, fun _ => ⟨by show n ≤ m; omega, by show m ≤ _; omega⟩⟩
      show true = _; simp; omega
theorem deep_two {s : List Col} {i : Nat} {x : Prd} (h : Deep s i x) : Deep s (i + 1) (.mk 5 0 0 valZ false [x.still, ttP.still]) := by
  intro d n hd hn h64
  rw [look_mk s 5 _ d n rfl (by omega)]
  by_cases h0 : d = 0
  · rw [if_pos h0]; subst h0; refine ⟨?_, fun h => by omega⟩
    show false = _; simp; omega
  · rw [if_neg h0, lookL, lookP_still]
    have := h (d - 1) (n + 1) (by omega) (by omega) (by omega)
    rcases hx : lookP s x (d - 1) (n + 1) with ⟨b, m⟩
    rw [hx] at this
    dsimp only at this
    cases b with
    | false =>
      refine ⟨?_, fun h => ?_⟩
      · show false = _; rw [this.1]; simp; omega
      · exact absurd this.1 (by simp; omega)
    | true =>
      have h1 : (i : Int) < d - 1 := by simpa using this.1.symm
      have h2 := this.2 h1
      dsimp only
      rw [lookL, lookP_still]
      have ht := deep_tt s (d - 1) m (by omega) (by omega) (by omega)
      rcases hy : lookP s ttP (d - 1) m with ⟨b', m'⟩
      rw [hy] at ht
      dsimp only at ht
      cases b' with
      | false => exact absurd ht.1 (by simp; omega)
      | true =>
        have h3 := ht.2 (by omega)
        dsimp only
        rw [lookL]
        refine ⟨?_, fun _ => ⟨by show n ≤ m'; omega, by show m' ≤ _; omega⟩⟩
        show true = _; simp; omega
def wrapP (kind : Int) (x : Prd) (i : Nat) : Prd :=
  if kind / 2 ^ (2 * i) % 4 = 0 then .mk 6 0 0 valZ false [x.still] else if kind / 2 ^ (2 * i) % 4 = 1 then .mk 4 0 0 valZ false [x.still] else .mk 5 0 0 valZ false [x.still, ttP.still]
def deepP (kind : Int) : Nat → Prd
  | 0 => ttP
  | i + 1 => wrapP kind (deepP kind i) i
theorem deepP_deep (s : List Col) (kind : Int) : ∀ i, Deep s i (deepP kind i)
  | 0 => deep_tt s
  | i + 1 => by
    rw [deepP, wrapP]
    split
    · exact deep_one 6 (.inr rfl) (deepP_deep s kind i)
    · split
      · exact deep_one 4 (.inl rfl) (deepP_deep s kind i)
      · exact deep_two (deepP_deep s kind i)
theorem deepP_Sm (kind : Int) : ∀ i, Sm (deepP kind i)
  | 0 => tt_Sm
  | i + 1 => by
    have ih := Sm.still (deepP_Sm kind i)
    have it := Sm.still tt_Sm
    rw [deepP, wrapP]
    split
    · exact mk_Sm (by simp) (by intro q hq; simp at hq; subst hq; exact ih)
    · split
      · exact mk_Sm (by simp) (by intro q hq; simp at hq; subst hq; exact ih)
      · exact mk_Sm (by simp) (by intro q hq; simp at hq; rcases hq with rfl | rfl; exact ih; exact it)
theorem deepP_ok (s : List Col) (kind : Int) (i : Nat) (hi : i ≤ 7) : (lookP s (deepP kind i) 5 0).1 = decide (i ≤ 4) := by
  rw [(deepP_deep s kind i 5 0 (by decide) (by decide) (by omega)).1, decide_eq_decide]; omega
theorem make7_spec {c : Nat} (hc : c ≤ 7) : dw E 22 [.int .i64 c] [] = some (.nr 28 8 ((List.replicate c ttP).map Prd.pv), []) := by
  refine dw_in (fn := Try.f22) rfl body22 (by simp) ?_
  have hr : ∀ i, i < c → ((List.replicate i ttP ++ List.replicate (c - i) zzP).map Prd.pv)[i]? = some zzP.pv := fun i hi => by
    rw [List.getElem?_map, List.getElem?_append_right (by simp), List.length_replicate, Nat.sub_self, List.getElem?_replicate, if_pos (by omega)]; rfl
  have hset : ∀ i, i < c → ((List.replicate i ttP ++ List.replicate (c - i) zzP).map Prd.pv).set i [.int .i64 1, .int .i64 0, .int .i64 0, .bool false, .int .i64 0, .int .i64 0, .nils, .nils] = (List.replicate (i + 1) ttP ++ List.replicate (c - (i + 1)) zzP).map Prd.pv := fun i hi => by
    rw [← tt_pv, ← List.map_set, List.set_append_right _ _ (by simp), List.length_replicate, Nat.sub_self, show c - i = (c - (i + 1)) + 1 by omega, List.replicate_succ, List.set_cons_zero, List.replicate_succ', List.append_assoc]; rfl
  have hlen : ∀ i, i ≤ c → ((List.replicate i ttP ++ List.replicate (c - i) zzP).map Prd.pv).length = c := fun i hi => by simp; omega
  have h0 : List.replicate c [PV.int .i64 0, .int .i64 0, .int .i64 0, .bool false, .int .i64 0, .int .i64 0, .nils, .nils] = (List.replicate 0 ttP ++ List.replicate (c - 0) zzP).map Prd.pv := by
    rw [← zz_pv]; simp
  obtain ⟨G, hG⟩ : ∃ G : Nat → List (List PV), G = fun i => (List.replicate i ttP ++ List.replicate (c - i) zzP).map Prd.pv := ⟨_, rfl⟩
  have hr : ∀ i, i < c → (G i)[i]? = some [.int .i64 0, .int .i64 0, .int .i64 0, .bool false, .int .i64 0, .int .i64 0, .nils, .nils] := fun i hi => by rw [hG, ← zz_pv]; exact hr i hi
  have hset : ∀ i, i < c → (G i).set i [.int .i64 1, .int .i64 0, .int .i64 0, .bool false, .int .i64 0, .int .i64 0, .nils, .nils] = G (i + 1) := fun i hi => by rw [hG]; exact hset i hi
  have hlen : ∀ i, i ≤ c → (G i).length = c := fun i hi => by rw [hG]; exact hlen i hi
  have h0 : List.replicate c [PV.int .i64 0, .int .i64 0, .int .i64 0, .bool false, .int .i64 0, .int .i64 0, .nils, .nils] = G 0 := by rw [hG]; exact h0
  have hend : G c = (List.replicate c ttP).map Prd.pv := by rw [hG]; simp
  clear hG
  simp -implicitDefEqProofs (maxSteps := 4000000) (disch := omega) only [go_sem, ↓Nat.reduceBEq, ↓Nat.reduceEqDiff, ↓Nat.reduceLT, ↓Nat.reduceLeDiff, ↓Int.reduceEq, ↓Int.reduceLT, ↓Int.reduceLE, ↓reduceIte, reduceCtorEq, reduceDIte, Nat.reduceAdd, Nat.reduceMul, Nat.reduceSub, Nat.reduceBEq, Nat.reduceBNe, Nat.reduceBeqDiff, Nat.reduceLT, Nat.reduceLeDiff, Nat.reduceEqDiff, Nat.reduceDiv, Nat.reduceMod, Nat.reducePow, Int.reduceLT, Int.reduceLE, Int.reduceGT, Int.reduceGE, Int.reduceEq, Int.reduceNe, Int.reduceToNat, Int.reduceNeg, Int.reducePow, Int.reduceAdd, Int.reduceMul, Int.reduceSub, Int.reduceBEq, Int.reduceMod, Int.reduceDiv, Int.reduceNatCast, Nat.min_def, Int.add_sub_cancel, Int.add_zero, Nat.add_zero, Nat.zero_add, Int.zero_add, Int.natCast_add, Int.natCast_mul, List.length_append, List.length_take, List.length_drop, List.length_replicate, List.length_set, tdv, tmd, fdv, s64, u64, u8m, ilt_t, ilt_f, ile_t, ile_f, ieq_t, ieq_f, nlt_t, nlt_f, nle_t, nle_f, neq_t, neq_f, Int.toNat_natCast]
  refine runs_for (fun i : Nat => (⟨[(3, .h 2097344), (8, .int .i64 c), (9, .int .i64 i)], [(2097344, some ⟨true, .row 28 8 (G i)⟩)], 1⟩ : St)) c ?_ ?_ ?_
  · simp -implicitDefEqProofs (maxSteps := 4000000) (disch := omega) only [go_sem, ↓Nat.reduceBEq, ↓Nat.reduceEqDiff, ↓Nat.reduceLT, ↓Nat.reduceLeDiff, ↓Int.reduceEq, ↓Int.reduceLT, ↓Int.reduceLE, ↓reduceIte, reduceCtorEq, reduceDIte, Nat.reduceAdd, Nat.reduceMul, Nat.reduceSub, Nat.reduceBEq, Nat.reduceBNe, Nat.reduceBeqDiff, Nat.reduceLT, Nat.reduceLeDiff, Nat.reduceEqDiff, Nat.reduceDiv, Nat.reduceMod, Nat.reducePow, Int.reduceLT, Int.reduceLE, Int.reduceGT, Int.reduceGE, Int.reduceEq, Int.reduceNe, Int.reduceToNat, Int.reduceNeg, Int.reducePow, Int.reduceAdd, Int.reduceMul, Int.reduceSub, Int.reduceBEq, Int.reduceMod, Int.reduceDiv, Int.reduceNatCast, Nat.min_def, Int.add_sub_cancel, Int.add_zero, Nat.add_zero, Nat.zero_add, Int.zero_add, Int.natCast_add, Int.natCast_mul, List.length_append, List.length_take, List.length_drop, List.length_replicate, List.length_set, tdv, tmd, fdv, s64, u64, u8m, ilt_t, ilt_f, ile_t, ile_f, ieq_t, ieq_f, nlt_t, nlt_f, nle_t, nle_f, neq_t, neq_f, Int.toNat_natCast, h0]
  · intro i hi
    have a1 := hr i hi
    have a2 := hset i hi
    have a3 := hlen i (by omega)
    clear hr hset hlen
    simp -implicitDefEqProofs (maxSteps := 4000000) (disch := omega) only [go_sem, ↓Nat.reduceBEq, ↓Nat.reduceEqDiff, ↓Nat.reduceLT, ↓Nat.reduceLeDiff, ↓Int.reduceEq, ↓Int.reduceLT, ↓Int.reduceLE, ↓reduceIte, reduceCtorEq, reduceDIte, Nat.reduceAdd, Nat.reduceMul, Nat.reduceSub, Nat.reduceBEq, Nat.reduceBNe, Nat.reduceBeqDiff, Nat.reduceLT, Nat.reduceLeDiff, Nat.reduceEqDiff, Nat.reduceDiv, Nat.reduceMod, Nat.reducePow, Int.reduceLT, Int.reduceLE, Int.reduceGT, Int.reduceGE, Int.reduceEq, Int.reduceNe, Int.reduceToNat, Int.reduceNeg, Int.reducePow, Int.reduceAdd, Int.reduceMul, Int.reduceSub, Int.reduceBEq, Int.reduceMod, Int.reduceDiv, Int.reduceNatCast, Nat.min_def, Int.add_sub_cancel, Int.add_zero, Nat.add_zero, Nat.zero_add, Int.zero_add, Int.natCast_add, Int.natCast_mul, List.length_append, List.length_take, List.length_drop, List.length_replicate, List.length_set, tdv, tmd, fdv, s64, u64, u8m, ilt_t, ilt_f, ile_t, ile_f, ieq_t, ieq_f, nlt_t, nlt_f, nle_t, nle_f, neq_t, neq_f, Int.toNat_natCast, a1, a2, a3]
  · simp -implicitDefEqProofs (maxSteps := 4000000) (disch := omega) only [go_sem, ↓Nat.reduceBEq, ↓Nat.reduceEqDiff, ↓Nat.reduceLT, ↓Nat.reduceLeDiff, ↓Int.reduceEq, ↓Int.reduceLT, ↓Int.reduceLE, ↓reduceIte, reduceCtorEq, reduceDIte, Nat.reduceAdd, Nat.reduceMul, Nat.reduceSub, Nat.reduceBEq, Nat.reduceBNe, Nat.reduceBeqDiff, Nat.reduceLT, Nat.reduceLeDiff, Nat.reduceEqDiff, Nat.reduceDiv, Nat.reduceMod, Nat.reducePow, Int.reduceLT, Int.reduceLE, Int.reduceGT, Int.reduceGE, Int.reduceEq, Int.reduceNe, Int.reduceToNat, Int.reduceNeg, Int.reducePow, Int.reduceAdd, Int.reduceMul, Int.reduceSub, Int.reduceBEq, Int.reduceMod, Int.reduceDiv, Int.reduceNatCast, Nat.min_def, Int.add_sub_cancel, Int.add_zero, Nat.add_zero, Nat.zero_add, Int.zero_add, Int.natCast_add, Int.natCast_mul, List.length_append, List.length_take, List.length_drop, List.length_replicate, List.length_set, tdv, tmd, fdv, s64, u64, u8m, ilt_t, ilt_f, ile_t, ile_f, ieq_t, ieq_f, nlt_t, nlt_f, nle_t, nle_f, neq_t, neq_f, Int.toNat_natCast, hend]
def elP (j : Nat) : Prd := .mk 4 0 0 valZ false ((List.replicate (j % 8) ttP).map Prd.still)
theorem elP_Sm (j : Nat) : Sm (elP j) := mk_Sm (by simp; omega) (by
  intro q hq
  obtain ⟨r, hr, rfl⟩ := List.mem_map.1 hq
  rw [List.eq_of_mem_replicate hr]
  exact Sm.still tt_Sm)
theorem elP_pv (j : Nat) : (elP j).pv = [.int .i64 4, .int .i64 0, .int .i64 0, .bool false, .int .i64 0, .int .i64 0, .nils, .sl 8 (((List.replicate (j % 8) ttP).map Prd.still).map Prd.pv)] := by rw [elP, pv_mk, pl_false]; rfl
def nS : Nat → Nat
  | 0 => 1
  | j + 1 => nS j + 1 + j % 8
theorem nS_le : ∀ j, nS j ≤ 1 + 8 * j
  | 0 => by decide
  | j + 1 => by have := nS_le j; rw [nS]; omega
def anyP (m : Nat) : Prd := .mk 5 0 0 valZ false ((upto elP m).map Prd.still)
theorem anyP_ok (m : Nat) (hm : m ≤ 15) : (lookP (schemaN 3) (anyP m) 5 0).1 = (decide (m ≤ 8) && decide (nS m ≤ 64)) := by
  by_cases h : m ≤ 8
  · rcases (show m = 0 ∨ m = 1 ∨ m = 2 ∨ m = 3 ∨ m = 4 ∨ m = 5 ∨ m = 6 ∨ m = 7 ∨ m = 8 by omega) with rfl | rfl | rfl | rfl | rfl | rfl | rfl | rfl | rfl <;> kernel_rfl
  · have ho : oneB (schemaN 3) 5 0 0 valZ ((upto elP m).map Prd.still).length = false := by
      rw [List.length_map, upto_length]; unfold oneB bareB noneV; simp [sameV, h]
    rw [anyP, lookP, if_pos (.inr (.inr ho))]
    simp [h]
theorem PredDeep_spec {deep many kind : Int} : dw E 4 [.int .i64 deep, .int .i64 many, .int .i64 kind] [] = some (.bool true, []) := by
  refine dw_in (fn := Try.f4) rfl body4 (by simp) ?_
  obtain ⟨d, hd, hd7⟩ : ∃ d : Nat, deep % 8 = d ∧ d ≤ 7 := ⟨(deep % 8).toNat, by omega, by omega⟩
  obtain ⟨m, hm, hm15⟩ : ∃ m : Nat, many % 16 = m ∧ m ≤ 15 := ⟨(many % 16).toNat, by omega, by omega⟩
  have hS := Schema_spec (n := 3)
  simp -implicitDefEqProofs (maxSteps := 4000000) (disch := omega) only [go_sem, ↓Nat.reduceBEq, ↓Nat.reduceEqDiff, ↓Nat.reduceLT, ↓Nat.reduceLeDiff, ↓Int.reduceEq, ↓Int.reduceLT, ↓Int.reduceLE, ↓reduceIte, reduceCtorEq, reduceDIte, Nat.reduceAdd, Nat.reduceMul, Nat.reduceSub, Nat.reduceBEq, Nat.reduceBNe, Nat.reduceBeqDiff, Nat.reduceLT, Nat.reduceLeDiff, Nat.reduceEqDiff, Nat.reduceDiv, Nat.reduceMod, Nat.reducePow, Int.reduceLT, Int.reduceLE, Int.reduceGT, Int.reduceGE, Int.reduceEq, Int.reduceNe, Int.reduceToNat, Int.reduceNeg, Int.reducePow, Int.reduceAdd, Int.reduceMul, Int.reduceSub, Int.reduceBEq, Int.reduceMod, Int.reduceDiv, Int.reduceNatCast, Nat.min_def, Int.add_sub_cancel, Int.add_zero, Nat.add_zero, Nat.zero_add, Int.zero_add, Int.natCast_add, Int.natCast_mul, List.length_append, List.length_take, List.length_drop, List.length_replicate, List.length_set, tdv, tmd, fdv, s64, u64, u8m, ilt_t, ilt_f, ile_t, ile_f, ieq_t, ieq_f, nlt_t, nlt_f, nle_t, nle_f, neq_t, neq_f, Int.toNat_natCast, hS, hd, hm]
  refine runs_for (fun i : Nat => (⟨[(0, .int .i64 d), (1, .int .i64 m), (2, .int .i64 kind), (7, .pb 1048583 0), (8, .pb 1048584 0), (9, .int .i64 i)],
    match i with
    | 0 => [(1048583, some ⟨true, .box [.h 2097600]⟩), (2097600, some ⟨true, .row 71 3 ((schemaN 3).map Col.pv)⟩), (1048584, some ⟨true, .box [.int .i64 1, .int .i64 0, .int .i64 0, .bool false, .int .i64 0, .int .i64 0, .nils, .nils]⟩)]
    | i + 1 => [(1048583, some ⟨true, .box [.h 2097600]⟩), (2097600, some ⟨true, .row 71 3 ((schemaN 3).map Col.pv)⟩), (1048584, some ⟨true, .box [.int .i64 (deepP kind (i + 1)).kind, .int .i64 0, .int .i64 0, .bool false, .int .i64 0, .int .i64 0, .nils, .h 2097671]⟩), (2097671, some ⟨true, .row 28 8 ((deepP kind (i + 1)).list.map Prd.pv)⟩)], 1⟩ : St)) d ?_ ?_ ?_
  · simp -implicitDefEqProofs (maxSteps := 4000000) (disch := omega) only [go_sem, ↓Nat.reduceBEq, ↓Nat.reduceEqDiff, ↓Nat.reduceLT, ↓Nat.reduceLeDiff, ↓Int.reduceEq, ↓Int.reduceLT, ↓Int.reduceLE, ↓reduceIte, reduceCtorEq, reduceDIte, Nat.reduceAdd, Nat.reduceMul, Nat.reduceSub, Nat.reduceBEq, Nat.reduceBNe, Nat.reduceBeqDiff, Nat.reduceLT, Nat.reduceLeDiff, Nat.reduceEqDiff, Nat.reduceDiv, Nat.reduceMod, Nat.reducePow, Int.reduceLT, Int.reduceLE, Int.reduceGT, Int.reduceGE, Int.reduceEq, Int.reduceNe, Int.reduceToNat, Int.reduceNeg, Int.reducePow, Int.reduceAdd, Int.reduceMul, Int.reduceSub, Int.reduceBEq, Int.reduceMod, Int.reduceDiv, Int.reduceNatCast, Nat.min_def, Int.add_sub_cancel, Int.add_zero, Nat.add_zero, Nat.zero_add, Int.zero_add, Int.natCast_add, Int.natCast_mul, List.length_append, List.length_take, List.length_drop, List.length_replicate, List.length_set, tdv, tmd, fdv, s64, u64, u8m, ilt_t, ilt_f, ile_t, ile_f, ieq_t, ieq_f, nlt_t, nlt_f, nle_t, nle_f, neq_t, neq_f, Int.toNat_natCast]
  · intro i hi
    have hx := deepP_Sm kind i
    have hy : deepP kind (i + 1) = wrapP kind (deepP kind i) i := rfl
    unfold wrapP at hy
    have hz : kind.fdiv (2 ^ (2 * (i : Int)).toNat) = kind / 2 ^ (2 * i) := by
      rw [Int.fdiv_eq_ediv_of_nonneg _ (Int.pow_nonneg (by decide)), show (2 * (i : Int)).toNat = 2 * i by omega]
    generalize hzz : kind / 2 ^ (2 * i) = z at hy hz
    have hN := Not_pv hx
    have hA := All_spec (l := [deepP kind i]) false (by simp) (by intro q hq; simp at hq; subst hq; exact hx)
    have hO := Any_spec (l := [deepP kind i, ttP]) false (by simp) (by intro q hq; simp at hq; rcases hq with rfl | rfl; exact hx; exact tt_Sm)
    rw [pl_false] at hA hO
    simp only [List.map_cons, List.map_nil] at hN hA hO
    rw [tt_pv] at hO
    have hq3 : z % 4 = 0 ∨ z % 4 = 1 ∨ (2 ≤ z % 4) := by omega
    cases i with
    | zero =>
      have hk1 : kind = z := by rw [← hzz]; simp
      rw [show deepP kind 0 = ttP from rfl] at hN hA hO hy
      rw [tt_pv] at hN hA hO
      clear hz hzz hx
      subst hk1
      rcases hq3 with h | h | h
      · rw [if_pos h] at hy
        simp -implicitDefEqProofs (maxSteps := 4000000) (disch := omega) only [go_sem, ↓Nat.reduceBEq, ↓Nat.reduceEqDiff, ↓Nat.reduceLT, ↓Nat.reduceLeDiff, ↓Int.reduceEq, ↓Int.reduceLT, ↓Int.reduceLE, ↓reduceIte, reduceCtorEq, reduceDIte, Nat.reduceAdd, Nat.reduceMul, Nat.reduceSub, Nat.reduceBEq, Nat.reduceBNe, Nat.reduceBeqDiff, Nat.reduceLT, Nat.reduceLeDiff, Nat.reduceEqDiff, Nat.reduceDiv, Nat.reduceMod, Nat.reducePow, Int.reduceLT, Int.reduceLE, Int.reduceGT, Int.reduceGE, Int.reduceEq, Int.reduceNe, Int.reduceToNat, Int.reduceNeg, Int.reducePow, Int.reduceAdd, Int.reduceMul, Int.reduceSub, Int.reduceBEq, Int.reduceMod, Int.reduceDiv, Int.reduceNatCast, Nat.min_def, Int.add_sub_cancel, Int.add_zero, Nat.add_zero, Nat.zero_add, Int.zero_add, Int.natCast_add, Int.natCast_mul, List.length_append, List.length_take, List.length_drop, List.length_replicate, List.length_set, tdv, tmd, fdv, s64, u64, u8m, ilt_t, ilt_f, ile_t, ile_f, ieq_t, ieq_f, nlt_t, nlt_f, nle_t, nle_f, neq_t, neq_f, Int.toNat_natCast, Int.ediv_one, h, hN, hy, Prd.kind, Prd.list]
      · rw [if_neg (by omega), if_pos h] at hy
        simp -implicitDefEqProofs (maxSteps := 4000000) (disch := omega) only [go_sem, ↓Nat.reduceBEq, ↓Nat.reduceEqDiff, ↓Nat.reduceLT, ↓Nat.reduceLeDiff, ↓Int.reduceEq, ↓Int.reduceLT, ↓Int.reduceLE, ↓reduceIte, reduceCtorEq, reduceDIte, Nat.reduceAdd, Nat.reduceMul, Nat.reduceSub, Nat.reduceBEq, Nat.reduceBNe, Nat.reduceBeqDiff, Nat.reduceLT, Nat.reduceLeDiff, Nat.reduceEqDiff, Nat.reduceDiv, Nat.reduceMod, Nat.reducePow, Int.reduceLT, Int.reduceLE, Int.reduceGT, Int.reduceGE, Int.reduceEq, Int.reduceNe, Int.reduceToNat, Int.reduceNeg, Int.reducePow, Int.reduceAdd, Int.reduceMul, Int.reduceSub, Int.reduceBEq, Int.reduceMod, Int.reduceDiv, Int.reduceNatCast, Nat.min_def, Int.add_sub_cancel, Int.add_zero, Nat.add_zero, Nat.zero_add, Int.zero_add, Int.natCast_add, Int.natCast_mul, List.length_append, List.length_take, List.length_drop, List.length_replicate, List.length_set, tdv, tmd, fdv, s64, u64, u8m, ilt_t, ilt_f, ile_t, ile_f, ieq_t, ieq_f, nlt_t, nlt_f, nle_t, nle_f, neq_t, neq_f, Int.toNat_natCast, Int.ediv_one, h, hA, hy, Prd.kind, Prd.list]
      · rw [if_neg (by omega), if_neg (by omega)] at hy
        simp -implicitDefEqProofs (maxSteps := 4000000) (disch := omega) only [go_sem, ↓Nat.reduceBEq, ↓Nat.reduceEqDiff, ↓Nat.reduceLT, ↓Nat.reduceLeDiff, ↓Int.reduceEq, ↓Int.reduceLT, ↓Int.reduceLE, ↓reduceIte, reduceCtorEq, reduceDIte, Nat.reduceAdd, Nat.reduceMul, Nat.reduceSub, Nat.reduceBEq, Nat.reduceBNe, Nat.reduceBeqDiff, Nat.reduceLT, Nat.reduceLeDiff, Nat.reduceEqDiff, Nat.reduceDiv, Nat.reduceMod, Nat.reducePow, Int.reduceLT, Int.reduceLE, Int.reduceGT, Int.reduceGE, Int.reduceEq, Int.reduceNe, Int.reduceToNat, Int.reduceNeg, Int.reducePow, Int.reduceAdd, Int.reduceMul, Int.reduceSub, Int.reduceBEq, Int.reduceMod, Int.reduceDiv, Int.reduceNatCast, Nat.min_def, Int.add_sub_cancel, Int.add_zero, Nat.add_zero, Nat.zero_add, Int.zero_add, Int.natCast_add, Int.natCast_mul, List.length_append, List.length_take, List.length_drop, List.length_replicate, List.length_set, tdv, tmd, fdv, s64, u64, u8m, ilt_t, ilt_f, ile_t, ile_f, ieq_t, ieq_f, nlt_t, nlt_f, nle_t, nle_f, neq_t, neq_f, Int.toNat_natCast, Int.ediv_one, hO, hy, Prd.kind, Prd.list]
    | succ i =>
      obtain ⟨k, l, hkl⟩ : ∃ k l, deepP kind (i + 1) = .mk k 0 0 valZ false l := by
        rw [deepP, wrapP]
        split
        · exact ⟨_, _, rfl⟩
        · split <;> exact ⟨_, _, rfl⟩
      rw [hkl] at hN hA hO hy
      have hpv : (Prd.mk k 0 0 valZ false l).pv = [.int .i64 k, .int .i64 0, .int .i64 0, .bool false, .int .i64 0, .int .i64 0, .nils, .sl 8 (l.map Prd.pv)] := by rw [pv_mk, pl_false]; rfl
      rw [hpv] at hN hA hO
      rw [show ((i + 1 : Nat) : Int) = (i : Int) + 1 by omega] at hz
      clear hzz hx
      rcases hq3 with h | h | h
      · rw [if_pos h] at hy
        simp -implicitDefEqProofs (maxSteps := 4000000) (disch := omega) only [go_sem, ↓Nat.reduceBEq, ↓Nat.reduceEqDiff, ↓Nat.reduceLT, ↓Nat.reduceLeDiff, ↓Int.reduceEq, ↓Int.reduceLT, ↓Int.reduceLE, ↓reduceIte, reduceCtorEq, reduceDIte, Nat.reduceAdd, Nat.reduceMul, Nat.reduceSub, Nat.reduceBEq, Nat.reduceBNe, Nat.reduceBeqDiff, Nat.reduceLT, Nat.reduceLeDiff, Nat.reduceEqDiff, Nat.reduceDiv, Nat.reduceMod, Nat.reducePow, Int.reduceLT, Int.reduceLE, Int.reduceGT, Int.reduceGE, Int.reduceEq, Int.reduceNe, Int.reduceToNat, Int.reduceNeg, Int.reducePow, Int.reduceAdd, Int.reduceMul, Int.reduceSub, Int.reduceBEq, Int.reduceMod, Int.reduceDiv, Int.reduceNatCast, Nat.min_def, Int.add_sub_cancel, Int.add_zero, Nat.add_zero, Nat.zero_add, Int.zero_add, Int.natCast_add, Int.natCast_mul, List.length_append, List.length_take, List.length_drop, List.length_replicate, List.length_set, tdv, tmd, fdv, s64, u64, u8m, ilt_t, ilt_f, ile_t, ile_f, ieq_t, ieq_f, nlt_t, nlt_f, nle_t, nle_f, neq_t, neq_f, Int.toNat_natCast, hz, h, hN, hkl, hy, Prd.kind, Prd.list]
      · rw [if_neg (by omega), if_pos h] at hy
        simp -implicitDefEqProofs (maxSteps := 4000000) (disch := omega) only [go_sem, ↓Nat.reduceBEq, ↓Nat.reduceEqDiff, ↓Nat.reduceLT, ↓Nat.reduceLeDiff, ↓Int.reduceEq, ↓Int.reduceLT, ↓Int.reduceLE, ↓reduceIte, reduceCtorEq, reduceDIte, Nat.reduceAdd, Nat.reduceMul, Nat.reduceSub, Nat.reduceBEq, Nat.reduceBNe, Nat.reduceBeqDiff, Nat.reduceLT, Nat.reduceLeDiff, Nat.reduceEqDiff, Nat.reduceDiv, Nat.reduceMod, Nat.reducePow, Int.reduceLT, Int.reduceLE, Int.reduceGT, Int.reduceGE, Int.reduceEq, Int.reduceNe, Int.reduceToNat, Int.reduceNeg, Int.reducePow, Int.reduceAdd, Int.reduceMul, Int.reduceSub, Int.reduceBEq, Int.reduceMod, Int.reduceDiv, Int.reduceNatCast, Nat.min_def, Int.add_sub_cancel, Int.add_zero, Nat.add_zero, Nat.zero_add, Int.zero_add, Int.natCast_add, Int.natCast_mul, List.length_append, List.length_take, List.length_drop, List.length_replicate, List.length_set, tdv, tmd, fdv, s64, u64, u8m, ilt_t, ilt_f, ile_t, ile_f, ieq_t, ieq_f, nlt_t, nlt_f, nle_t, nle_f, neq_t, neq_f, Int.toNat_natCast, hz, h, hA, hkl, hy, Prd.kind, Prd.list]
      · rw [if_neg (by omega), if_neg (by omega)] at hy
        simp -implicitDefEqProofs (maxSteps := 4000000) (disch := omega) only [go_sem, ↓Nat.reduceBEq, ↓Nat.reduceEqDiff, ↓Nat.reduceLT, ↓Nat.reduceLeDiff, ↓Int.reduceEq, ↓Int.reduceLT, ↓Int.reduceLE, ↓reduceIte, reduceCtorEq, reduceDIte, Nat.reduceAdd, Nat.reduceMul, Nat.reduceSub, Nat.reduceBEq, Nat.reduceBNe, Nat.reduceBeqDiff, Nat.reduceLT, Nat.reduceLeDiff, Nat.reduceEqDiff, Nat.reduceDiv, Nat.reduceMod, Nat.reducePow, Int.reduceLT, Int.reduceLE, Int.reduceGT, Int.reduceGE, Int.reduceEq, Int.reduceNe, Int.reduceToNat, Int.reduceNeg, Int.reducePow, Int.reduceAdd, Int.reduceMul, Int.reduceSub, Int.reduceBEq, Int.reduceMod, Int.reduceDiv, Int.reduceNatCast, Nat.min_def, Int.add_sub_cancel, Int.add_zero, Nat.add_zero, Nat.zero_add, Int.zero_add, Int.natCast_add, Int.natCast_mul, List.length_append, List.length_take, List.length_drop, List.length_replicate, List.length_set, tdv, tmd, fdv, s64, u64, u8m, ilt_t, ilt_f, ile_t, ile_f, ieq_t, ieq_f, nlt_t, nlt_f, nle_t, nle_f, neq_t, neq_f, Int.toNat_natCast, hz, hO, hkl, hy, Prd.kind, Prd.list]
  · have hOk := Ok_spec (s := schemaN 3) (by decide) (deepP_Sm kind d)
    rw [← pv_eq, deepP_ok (schemaN 3) kind d hd7] at hOk
    have hcase : ((∃ d', d = d' + 1 ∧ ∃ k l, deepP kind d = .mk k 0 0 valZ false l) ∨ d = 0) := by
      cases d with
      | zero => exact .inr rfl
      | succ d =>
        refine .inl ⟨d, rfl, ?_⟩
        rw [deepP, wrapP]
        split
        · exact ⟨_, _, rfl⟩
        · split <;> exact ⟨_, _, rfl⟩
    rcases hcase with ⟨d', rfl, k, l, hkl⟩ | rfl
    · have hpv : (Prd.mk k 0 0 valZ false l).pv = [.int .i64 k, .int .i64 0, .int .i64 0, .bool false, .int .i64 0, .int .i64 0, .nils, .sl 8 (l.map Prd.pv)] := by rw [pv_mk, pl_false]; rfl
      rw [hkl, hpv] at hOk
      have hdd : decide (d' + 1 ≤ 4) = decide ((d' : Int) + 1 ≤ 4) := by rw [decide_eq_decide]; omega
      rw [hdd] at hOk
      rcases Classical.propComplete ((d' : Int) + 1 ≤ 4) with hd4 | hd4 <;> simp only [hd4, decide_true, decide_false] at hOk <;> simp -implicitDefEqProofs (maxSteps := 4000000) (disch := omega) only [go_sem, ↓Nat.reduceBEq, ↓Nat.reduceEqDiff, ↓Nat.reduceLT, ↓Nat.reduceLeDiff, ↓Int.reduceEq, ↓Int.reduceLT, ↓Int.reduceLE, ↓reduceIte, reduceCtorEq, reduceDIte, Nat.reduceAdd, Nat.reduceMul, Nat.reduceSub, Nat.reduceBEq, Nat.reduceBNe, Nat.reduceBeqDiff, Nat.reduceLT, Nat.reduceLeDiff, Nat.reduceEqDiff, Nat.reduceDiv, Nat.reduceMod, Nat.reducePow, Int.reduceLT, Int.reduceLE, Int.reduceGT, Int.reduceGE, Int.reduceEq, Int.reduceNe, Int.reduceToNat, Int.reduceNeg, Int.reducePow, Int.reduceAdd, Int.reduceMul, Int.reduceSub, Int.reduceBEq, Int.reduceMod, Int.reduceDiv, Int.reduceNatCast, Nat.min_def, Int.add_sub_cancel, Int.add_zero, Nat.add_zero, Nat.zero_add, Int.zero_add, Int.natCast_add, Int.natCast_mul, List.length_append, List.length_take, List.length_drop, List.length_replicate, List.length_set, tdv, tmd, fdv, s64, u64, u8m, ilt_t, ilt_f, ile_t, ile_f, ieq_t, ieq_f, nlt_t, nlt_f, nle_t, nle_f, neq_t, neq_f, Int.toNat_natCast, hkl, Prd.kind, Prd.list, hOk, hd4]
      · refine runs_for (fun j : Nat => (⟨[(1, .int .i64 m), (7, .pb 1048583 0), (10, .h 2097792), (11, .int .i64 j)], [(1048583, some ⟨true, .box [.h 2097600]⟩), (2097600, some ⟨true, .row 71 3 ((schemaN 3).map Col.pv)⟩), (2097792, some ⟨true, .row 28 8 ((upto elP j).map Prd.pv)⟩)], 1⟩ : St)) m ?_ ?_ ?_
        · simp -implicitDefEqProofs (maxSteps := 4000000) (disch := omega) only [go_sem, ↓Nat.reduceBEq, ↓Nat.reduceEqDiff, ↓Nat.reduceLT, ↓Nat.reduceLeDiff, ↓Int.reduceEq, ↓Int.reduceLT, ↓Int.reduceLE, ↓reduceIte, reduceCtorEq, reduceDIte, Nat.reduceAdd, Nat.reduceMul, Nat.reduceSub, Nat.reduceBEq, Nat.reduceBNe, Nat.reduceBeqDiff, Nat.reduceLT, Nat.reduceLeDiff, Nat.reduceEqDiff, Nat.reduceDiv, Nat.reduceMod, Nat.reducePow, Int.reduceLT, Int.reduceLE, Int.reduceGT, Int.reduceGE, Int.reduceEq, Int.reduceNe, Int.reduceToNat, Int.reduceNeg, Int.reducePow, Int.reduceAdd, Int.reduceMul, Int.reduceSub, Int.reduceBEq, Int.reduceMod, Int.reduceDiv, Int.reduceNatCast, Nat.min_def, Int.add_sub_cancel, Int.add_zero, Nat.add_zero, Nat.zero_add, Int.zero_add, Int.natCast_add, Int.natCast_mul, List.length_append, List.length_take, List.length_drop, List.length_replicate, List.length_set, tdv, tmd, fdv, s64, u64, u8m, ilt_t, ilt_f, ile_t, ile_f, ieq_t, ieq_f, nlt_t, nlt_f, nle_t, nle_f, neq_t, neq_f, Int.toNat_natCast, upto_zero, List.map_nil]
        · intro j hj
          have hm7 := make7_spec (c := j % 8) (by omega)
          have hA := All_spec (l := List.replicate (j % 8) ttP) false (by simp; omega) (by intro q hq; rw [List.eq_of_mem_replicate hq]; exact tt_Sm)
          rw [pl_false] at hA
          rw [show ((j % 8 : Nat) : Int) = (j : Int) % 8 by omega] at hm7
          generalize hL : (List.replicate (j % 8) ttP) = L at hm7 hA
          have he : (elP j).pv = [.int .i64 4, .int .i64 0, .int .i64 0, .bool false, .int .i64 0, .int .i64 0, .nils, .sl 8 ((L.map Prd.still).map Prd.pv)] := by rw [elP_pv, hL]
          clear hL
          simp -implicitDefEqProofs (maxSteps := 4000000) (disch := omega) only [go_sem, ↓Nat.reduceBEq, ↓Nat.reduceEqDiff, ↓Nat.reduceLT, ↓Nat.reduceLeDiff, ↓Int.reduceEq, ↓Int.reduceLT, ↓Int.reduceLE, ↓reduceIte, reduceCtorEq, reduceDIte, Nat.reduceAdd, Nat.reduceMul, Nat.reduceSub, Nat.reduceBEq, Nat.reduceBNe, Nat.reduceBeqDiff, Nat.reduceLT, Nat.reduceLeDiff, Nat.reduceEqDiff, Nat.reduceDiv, Nat.reduceMod, Nat.reducePow, Int.reduceLT, Int.reduceLE, Int.reduceGT, Int.reduceGE, Int.reduceEq, Int.reduceNe, Int.reduceToNat, Int.reduceNeg, Int.reducePow, Int.reduceAdd, Int.reduceMul, Int.reduceSub, Int.reduceBEq, Int.reduceMod, Int.reduceDiv, Int.reduceNatCast, Nat.min_def, Int.add_sub_cancel, Int.add_zero, Nat.add_zero, Nat.zero_add, Int.zero_add, Int.natCast_add, Int.natCast_mul, List.length_append, List.length_take, List.length_drop, List.length_replicate, List.length_set, tdv, tmd, fdv, s64, u64, u8m, ilt_t, ilt_f, ile_t, ile_f, ieq_t, ieq_f, nlt_t, nlt_f, nle_t, nle_f, neq_t, neq_f, Int.toNat_natCast, hm7, hA, upto_succ, upto_length, List.map_append, he]
        · have hAny := Any_spec (l := upto elP m) false (by rw [upto_length]; omega) (by intro q hq; obtain ⟨j, _, rfl⟩ := List.mem_map.1 (show q ∈ (List.range m).map elP from hq); exact elP_Sm j)
          rw [pl_false] at hAny
          have hOk2 := Ok_spec (s := schemaN 3) (by decide) (p := anyP m) (mk_Sm (by rw [List.length_map, upto_length]; omega) (by intro q hq; obtain ⟨r, hr, rfl⟩ := List.mem_map.1 hq; obtain ⟨j, _, rfl⟩ := List.mem_map.1 (show r ∈ (List.range m).map elP from hr); exact Sm.still (elP_Sm j)))
          rw [← pv_eq, anyP_ok m hm15, anyP, pv_mk, pl_false] at hOk2
          simp only [valZ, bl_none] at hOk2
          simp -implicitDefEqProofs (maxSteps := 4000000) (disch := omega) only [go_sem, ↓Nat.reduceBEq, ↓Nat.reduceEqDiff, ↓Nat.reduceLT, ↓Nat.reduceLeDiff, ↓Int.reduceEq, ↓Int.reduceLT, ↓Int.reduceLE, ↓reduceIte, reduceCtorEq, reduceDIte, Nat.reduceAdd, Nat.reduceMul, Nat.reduceSub, Nat.reduceBEq, Nat.reduceBNe, Nat.reduceBeqDiff, Nat.reduceLT, Nat.reduceLeDiff, Nat.reduceEqDiff, Nat.reduceDiv, Nat.reduceMod, Nat.reducePow, Int.reduceLT, Int.reduceLE, Int.reduceGT, Int.reduceGE, Int.reduceEq, Int.reduceNe, Int.reduceToNat, Int.reduceNeg, Int.reducePow, Int.reduceAdd, Int.reduceMul, Int.reduceSub, Int.reduceBEq, Int.reduceMod, Int.reduceDiv, Int.reduceNatCast, Nat.min_def, Int.add_sub_cancel, Int.add_zero, Nat.add_zero, Nat.zero_add, Int.zero_add, Int.natCast_add, Int.natCast_mul, List.length_append, List.length_take, List.length_drop, List.length_replicate, List.length_set, tdv, tmd, fdv, s64, u64, u8m, ilt_t, ilt_f, ile_t, ile_f, ieq_t, ieq_f, nlt_t, nlt_f, nle_t, nle_f, neq_t, neq_f, Int.toNat_natCast, upto_length]
          refine runs_for (fun j : Nat => (⟨[(1, .int .i64 m), (7, .pb 1048583 0), (10, .h 2097792), (12, .int .i64 (nS j)), (63, .int .i64 m), (64, .int .i64 j)], [(1048583, some ⟨true, .box [.h 2097600]⟩), (2097600, some ⟨true, .row 71 3 ((schemaN 3).map Col.pv)⟩), (2097792, some ⟨true, .row 28 8 ((upto elP m).map Prd.pv)⟩)], 1⟩ : St)) m ?_ ?_ ?_
          · simp -implicitDefEqProofs (maxSteps := 4000000) (disch := omega) only [go_sem, ↓Nat.reduceBEq, ↓Nat.reduceEqDiff, ↓Nat.reduceLT, ↓Nat.reduceLeDiff, ↓Int.reduceEq, ↓Int.reduceLT, ↓Int.reduceLE, ↓reduceIte, reduceCtorEq, reduceDIte, Nat.reduceAdd, Nat.reduceMul, Nat.reduceSub, Nat.reduceBEq, Nat.reduceBNe, Nat.reduceBeqDiff, Nat.reduceLT, Nat.reduceLeDiff, Nat.reduceEqDiff, Nat.reduceDiv, Nat.reduceMod, Nat.reducePow, Int.reduceLT, Int.reduceLE, Int.reduceGT, Int.reduceGE, Int.reduceEq, Int.reduceNe, Int.reduceToNat, Int.reduceNeg, Int.reducePow, Int.reduceAdd, Int.reduceMul, Int.reduceSub, Int.reduceBEq, Int.reduceMod, Int.reduceDiv, Int.reduceNatCast, Nat.min_def, Int.add_sub_cancel, Int.add_zero, Nat.add_zero, Nat.zero_add, Int.zero_add, Int.natCast_add, Int.natCast_mul, List.length_append, List.length_take, List.length_drop, List.length_replicate, List.length_set, tdv, tmd, fdv, s64, u64, u8m, ilt_t, ilt_f, ile_t, ile_f, ieq_t, ieq_f, nlt_t, nlt_f, nle_t, nle_f, neq_t, neq_f, Int.toNat_natCast, upto_length]
            rfl
          · intro j hj
            have hn := nS_le j
            clear hAny hOk2
            simp -implicitDefEqProofs (maxSteps := 4000000) (disch := omega) only [go_sem, ↓Nat.reduceBEq, ↓Nat.reduceEqDiff, ↓Nat.reduceLT, ↓Nat.reduceLeDiff, ↓Int.reduceEq, ↓Int.reduceLT, ↓Int.reduceLE, ↓reduceIte, reduceCtorEq, reduceDIte, Nat.reduceAdd, Nat.reduceMul, Nat.reduceSub, Nat.reduceBEq, Nat.reduceBNe, Nat.reduceBeqDiff, Nat.reduceLT, Nat.reduceLeDiff, Nat.reduceEqDiff, Nat.reduceDiv, Nat.reduceMod, Nat.reducePow, Int.reduceLT, Int.reduceLE, Int.reduceGT, Int.reduceGE, Int.reduceEq, Int.reduceNe, Int.reduceToNat, Int.reduceNeg, Int.reducePow, Int.reduceAdd, Int.reduceMul, Int.reduceSub, Int.reduceBEq, Int.reduceMod, Int.reduceDiv, Int.reduceNatCast, Nat.min_def, Int.add_sub_cancel, Int.add_zero, Nat.add_zero, Nat.zero_add, Int.zero_add, Int.natCast_add, Int.natCast_mul, List.length_append, List.length_take, List.length_drop, List.length_replicate, List.length_set, tdv, tmd, fdv, s64, u64, u8m, ilt_t, ilt_f, ile_t, ile_f, ieq_t, ieq_f, nlt_t, nlt_f, nle_t, nle_f, neq_t, neq_f, Int.toNat_natCast, upto_length, nS, Int.natCast_emod]
          · by_cases h8 : m ≤ 8
            · have hn : nS m ≤ 64 := by
                rcases (show m = 0 ∨ m = 1 ∨ m = 2 ∨ m = 3 ∨ m = 4 ∨ m = 5 ∨ m = 6 ∨ m = 7 ∨ m = 8 by omega) with rfl | rfl | rfl | rfl | rfl | rfl | rfl | rfl | rfl <;> decide
              rw [decide_eq_true h8, decide_eq_true hn] at hOk2
              simp -implicitDefEqProofs (maxSteps := 4000000) (disch := omega) only [go_sem, ↓Nat.reduceBEq, ↓Nat.reduceEqDiff, ↓Nat.reduceLT, ↓Nat.reduceLeDiff, ↓Int.reduceEq, ↓Int.reduceLT, ↓Int.reduceLE, ↓reduceIte, reduceCtorEq, reduceDIte, Nat.reduceAdd, Nat.reduceMul, Nat.reduceSub, Nat.reduceBEq, Nat.reduceBNe, Nat.reduceBeqDiff, Nat.reduceLT, Nat.reduceLeDiff, Nat.reduceEqDiff, Nat.reduceDiv, Nat.reduceMod, Nat.reducePow, Int.reduceLT, Int.reduceLE, Int.reduceGT, Int.reduceGE, Int.reduceEq, Int.reduceNe, Int.reduceToNat, Int.reduceNeg, Int.reducePow, Int.reduceAdd, Int.reduceMul, Int.reduceSub, Int.reduceBEq, Int.reduceMod, Int.reduceDiv, Int.reduceNatCast, Nat.min_def, Int.add_sub_cancel, Int.add_zero, Nat.add_zero, Nat.zero_add, Int.zero_add, Int.natCast_add, Int.natCast_mul, List.length_append, List.length_take, List.length_drop, List.length_replicate, List.length_set, tdv, tmd, fdv, s64, u64, u8m, ilt_t, ilt_f, ile_t, ile_f, ieq_t, ieq_f, nlt_t, nlt_f, nle_t, nle_f, neq_t, neq_f, Int.toNat_natCast, hAny, hOk2, awake7]
              ((repeat' split) <;> (change _ = true; kernel_rfl))
            · have h9 : 9 ≤ m := by omega
              rw [decide_eq_false h8] at hOk2
              clear h8
              simp -implicitDefEqProofs (maxSteps := 4000000) (disch := omega) only [go_sem, ↓Nat.reduceBEq, ↓Nat.reduceEqDiff, ↓Nat.reduceLT, ↓Nat.reduceLeDiff, ↓Int.reduceEq, ↓Int.reduceLT, ↓Int.reduceLE, ↓reduceIte, reduceCtorEq, reduceDIte, Nat.reduceAdd, Nat.reduceMul, Nat.reduceSub, Nat.reduceBEq, Nat.reduceBNe, Nat.reduceBeqDiff, Nat.reduceLT, Nat.reduceLeDiff, Nat.reduceEqDiff, Nat.reduceDiv, Nat.reduceMod, Nat.reducePow, Int.reduceLT, Int.reduceLE, Int.reduceGT, Int.reduceGE, Int.reduceEq, Int.reduceNe, Int.reduceToNat, Int.reduceNeg, Int.reducePow, Int.reduceAdd, Int.reduceMul, Int.reduceSub, Int.reduceBEq, Int.reduceMod, Int.reduceDiv, Int.reduceNatCast, Nat.min_def, Int.add_sub_cancel, Int.add_zero, Nat.add_zero, Nat.zero_add, Int.zero_add, Int.natCast_add, Int.natCast_mul, List.length_append, List.length_take, List.length_drop, List.length_replicate, List.length_set, tdv, tmd, fdv, s64, u64, u8m, ilt_t, ilt_f, ile_t, ile_f, ieq_t, ieq_f, nlt_t, nlt_f, nle_t, nle_f, neq_t, neq_f, Int.toNat_natCast, hAny, hOk2, awake7]
              ((repeat' split) <;> (change _ = true; kernel_rfl))
      · refine runs_for (fun j : Nat => (⟨[(1, .int .i64 m), (7, .pb 1048583 0), (10, .h 2097792), (11, .int .i64 j)], [(1048583, some ⟨true, .box [.h 2097600]⟩), (2097600, some ⟨true, .row 71 3 ((schemaN 3).map Col.pv)⟩), (2097792, some ⟨true, .row 28 8 ((upto elP j).map Prd.pv)⟩)], 1⟩ : St)) m ?_ ?_ ?_
        · simp -implicitDefEqProofs (maxSteps := 4000000) (disch := omega) only [go_sem, ↓Nat.reduceBEq, ↓Nat.reduceEqDiff, ↓Nat.reduceLT, ↓Nat.reduceLeDiff, ↓Int.reduceEq, ↓Int.reduceLT, ↓Int.reduceLE, ↓reduceIte, reduceCtorEq, reduceDIte, Nat.reduceAdd, Nat.reduceMul, Nat.reduceSub, Nat.reduceBEq, Nat.reduceBNe, Nat.reduceBeqDiff, Nat.reduceLT, Nat.reduceLeDiff, Nat.reduceEqDiff, Nat.reduceDiv, Nat.reduceMod, Nat.reducePow, Int.reduceLT, Int.reduceLE, Int.reduceGT, Int.reduceGE, Int.reduceEq, Int.reduceNe, Int.reduceToNat, Int.reduceNeg, Int.reducePow, Int.reduceAdd, Int.reduceMul, Int.reduceSub, Int.reduceBEq, Int.reduceMod, Int.reduceDiv, Int.reduceNatCast, Nat.min_def, Int.add_sub_cancel, Int.add_zero, Nat.add_zero, Nat.zero_add, Int.zero_add, Int.natCast_add, Int.natCast_mul, List.length_append, List.length_take, List.length_drop, List.length_replicate, List.length_set, tdv, tmd, fdv, s64, u64, u8m, ilt_t, ilt_f, ile_t, ile_f, ieq_t, ieq_f, nlt_t, nlt_f, nle_t, nle_f, neq_t, neq_f, Int.toNat_natCast, upto_zero, List.map_nil]
        · intro j hj
          have hm7 := make7_spec (c := j % 8) (by omega)
          have hA := All_spec (l := List.replicate (j % 8) ttP) false (by simp; omega) (by intro q hq; rw [List.eq_of_mem_replicate hq]; exact tt_Sm)
          rw [pl_false] at hA
          rw [show ((j % 8 : Nat) : Int) = (j : Int) % 8 by omega] at hm7
          generalize hL : (List.replicate (j % 8) ttP) = L at hm7 hA
          have he : (elP j).pv = [.int .i64 4, .int .i64 0, .int .i64 0, .bool false, .int .i64 0, .int .i64 0, .nils, .sl 8 ((L.map Prd.still).map Prd.pv)] := by rw [elP_pv, hL]
          clear hL
          simp -implicitDefEqProofs (maxSteps := 4000000) (disch := omega) only [go_sem, ↓Nat.reduceBEq, ↓Nat.reduceEqDiff, ↓Nat.reduceLT, ↓Nat.reduceLeDiff, ↓Int.reduceEq, ↓Int.reduceLT, ↓Int.reduceLE, ↓reduceIte, reduceCtorEq, reduceDIte, Nat.reduceAdd, Nat.reduceMul, Nat.reduceSub, Nat.reduceBEq, Nat.reduceBNe, Nat.reduceBeqDiff, Nat.reduceLT, Nat.reduceLeDiff, Nat.reduceEqDiff, Nat.reduceDiv, Nat.reduceMod, Nat.reducePow, Int.reduceLT, Int.reduceLE, Int.reduceGT, Int.reduceGE, Int.reduceEq, Int.reduceNe, Int.reduceToNat, Int.reduceNeg, Int.reducePow, Int.reduceAdd, Int.reduceMul, Int.reduceSub, Int.reduceBEq, Int.reduceMod, Int.reduceDiv, Int.reduceNatCast, Nat.min_def, Int.add_sub_cancel, Int.add_zero, Nat.add_zero, Nat.zero_add, Int.zero_add, Int.natCast_add, Int.natCast_mul, List.length_append, List.length_take, List.length_drop, List.length_replicate, List.length_set, tdv, tmd, fdv, s64, u64, u8m, ilt_t, ilt_f, ile_t, ile_f, ieq_t, ieq_f, nlt_t, nlt_f, nle_t, nle_f, neq_t, neq_f, Int.toNat_natCast, hm7, hA, upto_succ, upto_length, List.map_append, he]
        · have hAny := Any_spec (l := upto elP m) false (by rw [upto_length]; omega) (by intro q hq; obtain ⟨j, _, rfl⟩ := List.mem_map.1 (show q ∈ (List.range m).map elP from hq); exact elP_Sm j)
          rw [pl_false] at hAny
          have hOk2 := Ok_spec (s := schemaN 3) (by decide) (p := anyP m) (mk_Sm (by rw [List.length_map, upto_length]; omega) (by intro q hq; obtain ⟨r, hr, rfl⟩ := List.mem_map.1 hq; obtain ⟨j, _, rfl⟩ := List.mem_map.1 (show r ∈ (List.range m).map elP from hr); exact Sm.still (elP_Sm j)))
          rw [← pv_eq, anyP_ok m hm15, anyP, pv_mk, pl_false] at hOk2
          simp only [valZ, bl_none] at hOk2
          simp -implicitDefEqProofs (maxSteps := 4000000) (disch := omega) only [go_sem, ↓Nat.reduceBEq, ↓Nat.reduceEqDiff, ↓Nat.reduceLT, ↓Nat.reduceLeDiff, ↓Int.reduceEq, ↓Int.reduceLT, ↓Int.reduceLE, ↓reduceIte, reduceCtorEq, reduceDIte, Nat.reduceAdd, Nat.reduceMul, Nat.reduceSub, Nat.reduceBEq, Nat.reduceBNe, Nat.reduceBeqDiff, Nat.reduceLT, Nat.reduceLeDiff, Nat.reduceEqDiff, Nat.reduceDiv, Nat.reduceMod, Nat.reducePow, Int.reduceLT, Int.reduceLE, Int.reduceGT, Int.reduceGE, Int.reduceEq, Int.reduceNe, Int.reduceToNat, Int.reduceNeg, Int.reducePow, Int.reduceAdd, Int.reduceMul, Int.reduceSub, Int.reduceBEq, Int.reduceMod, Int.reduceDiv, Int.reduceNatCast, Nat.min_def, Int.add_sub_cancel, Int.add_zero, Nat.add_zero, Nat.zero_add, Int.zero_add, Int.natCast_add, Int.natCast_mul, List.length_append, List.length_take, List.length_drop, List.length_replicate, List.length_set, tdv, tmd, fdv, s64, u64, u8m, ilt_t, ilt_f, ile_t, ile_f, ieq_t, ieq_f, nlt_t, nlt_f, nle_t, nle_f, neq_t, neq_f, Int.toNat_natCast, upto_length]
          refine runs_for (fun j : Nat => (⟨[(1, .int .i64 m), (7, .pb 1048583 0), (10, .h 2097792), (12, .int .i64 (nS j)), (63, .int .i64 m), (64, .int .i64 j)], [(1048583, some ⟨true, .box [.h 2097600]⟩), (2097600, some ⟨true, .row 71 3 ((schemaN 3).map Col.pv)⟩), (2097792, some ⟨true, .row 28 8 ((upto elP m).map Prd.pv)⟩)], 1⟩ : St)) m ?_ ?_ ?_
          · simp -implicitDefEqProofs (maxSteps := 4000000) (disch := omega) only [go_sem, ↓Nat.reduceBEq, ↓Nat.reduceEqDiff, ↓Nat.reduceLT, ↓Nat.reduceLeDiff, ↓Int.reduceEq, ↓Int.reduceLT, ↓Int.reduceLE, ↓reduceIte, reduceCtorEq, reduceDIte, Nat.reduceAdd, Nat.reduceMul, Nat.reduceSub, Nat.reduceBEq, Nat.reduceBNe, Nat.reduceBeqDiff, Nat.reduceLT, Nat.reduceLeDiff, Nat.reduceEqDiff, Nat.reduceDiv, Nat.reduceMod, Nat.reducePow, Int.reduceLT, Int.reduceLE, Int.reduceGT, Int.reduceGE, Int.reduceEq, Int.reduceNe, Int.reduceToNat, Int.reduceNeg, Int.reducePow, Int.reduceAdd, Int.reduceMul, Int.reduceSub, Int.reduceBEq, Int.reduceMod, Int.reduceDiv, Int.reduceNatCast, Nat.min_def, Int.add_sub_cancel, Int.add_zero, Nat.add_zero, Nat.zero_add, Int.zero_add, Int.natCast_add, Int.natCast_mul, List.length_append, List.length_take, List.length_drop, List.length_replicate, List.length_set, tdv, tmd, fdv, s64, u64, u8m, ilt_t, ilt_f, ile_t, ile_f, ieq_t, ieq_f, nlt_t, nlt_f, nle_t, nle_f, neq_t, neq_f, Int.toNat_natCast, upto_length]
            rfl
          · intro j hj
            have hn := nS_le j
            clear hAny hOk2
            simp -implicitDefEqProofs (maxSteps := 4000000) (disch := omega) only [go_sem, ↓Nat.reduceBEq, ↓Nat.reduceEqDiff, ↓Nat.reduceLT, ↓Nat.reduceLeDiff, ↓Int.reduceEq, ↓Int.reduceLT, ↓Int.reduceLE, ↓reduceIte, reduceCtorEq, reduceDIte, Nat.reduceAdd, Nat.reduceMul, Nat.reduceSub, Nat.reduceBEq, Nat.reduceBNe, Nat.reduceBeqDiff, Nat.reduceLT, Nat.reduceLeDiff, Nat.reduceEqDiff, Nat.reduceDiv, Nat.reduceMod, Nat.reducePow, Int.reduceLT, Int.reduceLE, Int.reduceGT, Int.reduceGE, Int.reduceEq, Int.reduceNe, Int.reduceToNat, Int.reduceNeg, Int.reducePow, Int.reduceAdd, Int.reduceMul, Int.reduceSub, Int.reduceBEq, Int.reduceMod, Int.reduceDiv, Int.reduceNatCast, Nat.min_def, Int.add_sub_cancel, Int.add_zero, Nat.add_zero, Nat.zero_add, Int.zero_add, Int.natCast_add, Int.natCast_mul, List.length_append, List.length_take, List.length_drop, List.length_replicate, List.length_set, tdv, tmd, fdv, s64, u64, u8m, ilt_t, ilt_f, ile_t, ile_f, ieq_t, ieq_f, nlt_t, nlt_f, nle_t, nle_f, neq_t, neq_f, Int.toNat_natCast, upto_length, nS, Int.natCast_emod]
          · by_cases h8 : m ≤ 8
            · have hn : nS m ≤ 64 := by
                rcases (show m = 0 ∨ m = 1 ∨ m = 2 ∨ m = 3 ∨ m = 4 ∨ m = 5 ∨ m = 6 ∨ m = 7 ∨ m = 8 by omega) with rfl | rfl | rfl | rfl | rfl | rfl | rfl | rfl | rfl <;> decide
              rw [decide_eq_true h8, decide_eq_true hn] at hOk2
              simp -implicitDefEqProofs (maxSteps := 4000000) (disch := omega) only [go_sem, ↓Nat.reduceBEq, ↓Nat.reduceEqDiff, ↓Nat.reduceLT, ↓Nat.reduceLeDiff, ↓Int.reduceEq, ↓Int.reduceLT, ↓Int.reduceLE, ↓reduceIte, reduceCtorEq, reduceDIte, Nat.reduceAdd, Nat.reduceMul, Nat.reduceSub, Nat.reduceBEq, Nat.reduceBNe, Nat.reduceBeqDiff, Nat.reduceLT, Nat.reduceLeDiff, Nat.reduceEqDiff, Nat.reduceDiv, Nat.reduceMod, Nat.reducePow, Int.reduceLT, Int.reduceLE, Int.reduceGT, Int.reduceGE, Int.reduceEq, Int.reduceNe, Int.reduceToNat, Int.reduceNeg, Int.reducePow, Int.reduceAdd, Int.reduceMul, Int.reduceSub, Int.reduceBEq, Int.reduceMod, Int.reduceDiv, Int.reduceNatCast, Nat.min_def, Int.add_sub_cancel, Int.add_zero, Nat.add_zero, Nat.zero_add, Int.zero_add, Int.natCast_add, Int.natCast_mul, List.length_append, List.length_take, List.length_drop, List.length_replicate, List.length_set, tdv, tmd, fdv, s64, u64, u8m, ilt_t, ilt_f, ile_t, ile_f, ieq_t, ieq_f, nlt_t, nlt_f, nle_t, nle_f, neq_t, neq_f, Int.toNat_natCast, hAny, hOk2, awake7]
              ((repeat' split) <;> (change _ = true; kernel_rfl))
            · have h9 : 9 ≤ m := by omega
              rw [decide_eq_false h8] at hOk2
              clear h8
              simp -implicitDefEqProofs (maxSteps := 4000000) (disch := omega) only [go_sem, ↓Nat.reduceBEq, ↓Nat.reduceEqDiff, ↓Nat.reduceLT, ↓Nat.reduceLeDiff, ↓Int.reduceEq, ↓Int.reduceLT, ↓Int.reduceLE, ↓reduceIte, reduceCtorEq, reduceDIte, Nat.reduceAdd, Nat.reduceMul, Nat.reduceSub, Nat.reduceBEq, Nat.reduceBNe, Nat.reduceBeqDiff, Nat.reduceLT, Nat.reduceLeDiff, Nat.reduceEqDiff, Nat.reduceDiv, Nat.reduceMod, Nat.reducePow, Int.reduceLT, Int.reduceLE, Int.reduceGT, Int.reduceGE, Int.reduceEq, Int.reduceNe, Int.reduceToNat, Int.reduceNeg, Int.reducePow, Int.reduceAdd, Int.reduceMul, Int.reduceSub, Int.reduceBEq, Int.reduceMod, Int.reduceDiv, Int.reduceNatCast, Nat.min_def, Int.add_sub_cancel, Int.add_zero, Nat.add_zero, Nat.zero_add, Int.zero_add, Int.natCast_add, Int.natCast_mul, List.length_append, List.length_take, List.length_drop, List.length_replicate, List.length_set, tdv, tmd, fdv, s64, u64, u8m, ilt_t, ilt_f, ile_t, ile_f, ieq_t, ieq_f, nlt_t, nlt_f, nle_t, nle_f, neq_t, neq_f, Int.toNat_natCast, hAny, hOk2, awake7]
              ((repeat' split) <;> (change _ = true; kernel_rfl))
    · rw [show deepP kind 0 = ttP from rfl, tt_pv] at hOk
      simp -implicitDefEqProofs (maxSteps := 4000000) (disch := omega) only [go_sem, ↓Nat.reduceBEq, ↓Nat.reduceEqDiff, ↓Nat.reduceLT, ↓Nat.reduceLeDiff, ↓Int.reduceEq, ↓Int.reduceLT, ↓Int.reduceLE, ↓reduceIte, reduceCtorEq, reduceDIte, Nat.reduceAdd, Nat.reduceMul, Nat.reduceSub, Nat.reduceBEq, Nat.reduceBNe, Nat.reduceBeqDiff, Nat.reduceLT, Nat.reduceLeDiff, Nat.reduceEqDiff, Nat.reduceDiv, Nat.reduceMod, Nat.reducePow, Int.reduceLT, Int.reduceLE, Int.reduceGT, Int.reduceGE, Int.reduceEq, Int.reduceNe, Int.reduceToNat, Int.reduceNeg, Int.reducePow, Int.reduceAdd, Int.reduceMul, Int.reduceSub, Int.reduceBEq, Int.reduceMod, Int.reduceDiv, Int.reduceNatCast, Nat.min_def, Int.add_sub_cancel, Int.add_zero, Nat.add_zero, Nat.zero_add, Int.zero_add, Int.natCast_add, Int.natCast_mul, List.length_append, List.length_take, List.length_drop, List.length_replicate, List.length_set, tdv, tmd, fdv, s64, u64, u8m, ilt_t, ilt_f, ile_t, ile_f, ieq_t, ieq_f, nlt_t, nlt_f, nle_t, nle_f, neq_t, neq_f, Int.toNat_natCast, hOk]
      refine runs_for (fun j : Nat => (⟨[(1, .int .i64 m), (7, .pb 1048583 0), (10, .h 2097792), (11, .int .i64 j)], [(1048583, some ⟨true, .box [.h 2097600]⟩), (2097600, some ⟨true, .row 71 3 ((schemaN 3).map Col.pv)⟩), (2097792, some ⟨true, .row 28 8 ((upto elP j).map Prd.pv)⟩)], 1⟩ : St)) m ?_ ?_ ?_
      · simp -implicitDefEqProofs (maxSteps := 4000000) (disch := omega) only [go_sem, ↓Nat.reduceBEq, ↓Nat.reduceEqDiff, ↓Nat.reduceLT, ↓Nat.reduceLeDiff, ↓Int.reduceEq, ↓Int.reduceLT, ↓Int.reduceLE, ↓reduceIte, reduceCtorEq, reduceDIte, Nat.reduceAdd, Nat.reduceMul, Nat.reduceSub, Nat.reduceBEq, Nat.reduceBNe, Nat.reduceBeqDiff, Nat.reduceLT, Nat.reduceLeDiff, Nat.reduceEqDiff, Nat.reduceDiv, Nat.reduceMod, Nat.reducePow, Int.reduceLT, Int.reduceLE, Int.reduceGT, Int.reduceGE, Int.reduceEq, Int.reduceNe, Int.reduceToNat, Int.reduceNeg, Int.reducePow, Int.reduceAdd, Int.reduceMul, Int.reduceSub, Int.reduceBEq, Int.reduceMod, Int.reduceDiv, Int.reduceNatCast, Nat.min_def, Int.add_sub_cancel, Int.add_zero, Nat.add_zero, Nat.zero_add, Int.zero_add, Int.natCast_add, Int.natCast_mul, List.length_append, List.length_take, List.length_drop, List.length_replicate, List.length_set, tdv, tmd, fdv, s64, u64, u8m, ilt_t, ilt_f, ile_t, ile_f, ieq_t, ieq_f, nlt_t, nlt_f, nle_t, nle_f, neq_t, neq_f, Int.toNat_natCast, upto_zero, List.map_nil]
      · intro j hj
        have hm7 := make7_spec (c := j % 8) (by omega)
        have hA := All_spec (l := List.replicate (j % 8) ttP) false (by simp; omega) (by intro q hq; rw [List.eq_of_mem_replicate hq]; exact tt_Sm)
        rw [pl_false] at hA
        rw [show ((j % 8 : Nat) : Int) = (j : Int) % 8 by omega] at hm7
        generalize hL : (List.replicate (j % 8) ttP) = L at hm7 hA
        have he : (elP j).pv = [.int .i64 4, .int .i64 0, .int .i64 0, .bool false, .int .i64 0, .int .i64 0, .nils, .sl 8 ((L.map Prd.still).map Prd.pv)] := by rw [elP_pv, hL]
        clear hL
        simp -implicitDefEqProofs (maxSteps := 4000000) (disch := omega) only [go_sem, ↓Nat.reduceBEq, ↓Nat.reduceEqDiff, ↓Nat.reduceLT, ↓Nat.reduceLeDiff, ↓Int.reduceEq, ↓Int.reduceLT, ↓Int.reduceLE, ↓reduceIte, reduceCtorEq, reduceDIte, Nat.reduceAdd, Nat.reduceMul, Nat.reduceSub, Nat.reduceBEq, Nat.reduceBNe, Nat.reduceBeqDiff, Nat.reduceLT, Nat.reduceLeDiff, Nat.reduceEqDiff, Nat.reduceDiv, Nat.reduceMod, Nat.reducePow, Int.reduceLT, Int.reduceLE, Int.reduceGT, Int.reduceGE, Int.reduceEq, Int.reduceNe, Int.reduceToNat, Int.reduceNeg, Int.reducePow, Int.reduceAdd, Int.reduceMul, Int.reduceSub, Int.reduceBEq, Int.reduceMod, Int.reduceDiv, Int.reduceNatCast, Nat.min_def, Int.add_sub_cancel, Int.add_zero, Nat.add_zero, Nat.zero_add, Int.zero_add, Int.natCast_add, Int.natCast_mul, List.length_append, List.length_take, List.length_drop, List.length_replicate, List.length_set, tdv, tmd, fdv, s64, u64, u8m, ilt_t, ilt_f, ile_t, ile_f, ieq_t, ieq_f, nlt_t, nlt_f, nle_t, nle_f, neq_t, neq_f, Int.toNat_natCast, hm7, hA, upto_succ, upto_length, List.map_append, he]
      · have hAny := Any_spec (l := upto elP m) false (by rw [upto_length]; omega) (by intro q hq; obtain ⟨j, _, rfl⟩ := List.mem_map.1 (show q ∈ (List.range m).map elP from hq); exact elP_Sm j)
        rw [pl_false] at hAny
        have hOk2 := Ok_spec (s := schemaN 3) (by decide) (p := anyP m) (mk_Sm (by rw [List.length_map, upto_length]; omega) (by intro q hq; obtain ⟨r, hr, rfl⟩ := List.mem_map.1 hq; obtain ⟨j, _, rfl⟩ := List.mem_map.1 (show r ∈ (List.range m).map elP from hr); exact Sm.still (elP_Sm j)))
        rw [← pv_eq, anyP_ok m hm15, anyP, pv_mk, pl_false] at hOk2
        simp only [valZ, bl_none] at hOk2
        simp -implicitDefEqProofs (maxSteps := 4000000) (disch := omega) only [go_sem, ↓Nat.reduceBEq, ↓Nat.reduceEqDiff, ↓Nat.reduceLT, ↓Nat.reduceLeDiff, ↓Int.reduceEq, ↓Int.reduceLT, ↓Int.reduceLE, ↓reduceIte, reduceCtorEq, reduceDIte, Nat.reduceAdd, Nat.reduceMul, Nat.reduceSub, Nat.reduceBEq, Nat.reduceBNe, Nat.reduceBeqDiff, Nat.reduceLT, Nat.reduceLeDiff, Nat.reduceEqDiff, Nat.reduceDiv, Nat.reduceMod, Nat.reducePow, Int.reduceLT, Int.reduceLE, Int.reduceGT, Int.reduceGE, Int.reduceEq, Int.reduceNe, Int.reduceToNat, Int.reduceNeg, Int.reducePow, Int.reduceAdd, Int.reduceMul, Int.reduceSub, Int.reduceBEq, Int.reduceMod, Int.reduceDiv, Int.reduceNatCast, Nat.min_def, Int.add_sub_cancel, Int.add_zero, Nat.add_zero, Nat.zero_add, Int.zero_add, Int.natCast_add, Int.natCast_mul, List.length_append, List.length_take, List.length_drop, List.length_replicate, List.length_set, tdv, tmd, fdv, s64, u64, u8m, ilt_t, ilt_f, ile_t, ile_f, ieq_t, ieq_f, nlt_t, nlt_f, nle_t, nle_f, neq_t, neq_f, Int.toNat_natCast, upto_length]
        refine runs_for (fun j : Nat => (⟨[(1, .int .i64 m), (7, .pb 1048583 0), (10, .h 2097792), (12, .int .i64 (nS j)), (63, .int .i64 m), (64, .int .i64 j)], [(1048583, some ⟨true, .box [.h 2097600]⟩), (2097600, some ⟨true, .row 71 3 ((schemaN 3).map Col.pv)⟩), (2097792, some ⟨true, .row 28 8 ((upto elP m).map Prd.pv)⟩)], 1⟩ : St)) m ?_ ?_ ?_
        · simp -implicitDefEqProofs (maxSteps := 4000000) (disch := omega) only [go_sem, ↓Nat.reduceBEq, ↓Nat.reduceEqDiff, ↓Nat.reduceLT, ↓Nat.reduceLeDiff, ↓Int.reduceEq, ↓Int.reduceLT, ↓Int.reduceLE, ↓reduceIte, reduceCtorEq, reduceDIte, Nat.reduceAdd, Nat.reduceMul, Nat.reduceSub, Nat.reduceBEq, Nat.reduceBNe, Nat.reduceBeqDiff, Nat.reduceLT, Nat.reduceLeDiff, Nat.reduceEqDiff, Nat.reduceDiv, Nat.reduceMod, Nat.reducePow, Int.reduceLT, Int.reduceLE, Int.reduceGT, Int.reduceGE, Int.reduceEq, Int.reduceNe, Int.reduceToNat, Int.reduceNeg, Int.reducePow, Int.reduceAdd, Int.reduceMul, Int.reduceSub, Int.reduceBEq, Int.reduceMod, Int.reduceDiv, Int.reduceNatCast, Nat.min_def, Int.add_sub_cancel, Int.add_zero, Nat.add_zero, Nat.zero_add, Int.zero_add, Int.natCast_add, Int.natCast_mul, List.length_append, List.length_take, List.length_drop, List.length_replicate, List.length_set, tdv, tmd, fdv, s64, u64, u8m, ilt_t, ilt_f, ile_t, ile_f, ieq_t, ieq_f, nlt_t, nlt_f, nle_t, nle_f, neq_t, neq_f, Int.toNat_natCast, upto_length]
          rfl
        · intro j hj
          have hn := nS_le j
          clear hAny hOk2
          simp -implicitDefEqProofs (maxSteps := 4000000) (disch := omega) only [go_sem, ↓Nat.reduceBEq, ↓Nat.reduceEqDiff, ↓Nat.reduceLT, ↓Nat.reduceLeDiff, ↓Int.reduceEq, ↓Int.reduceLT, ↓Int.reduceLE, ↓reduceIte, reduceCtorEq, reduceDIte, Nat.reduceAdd, Nat.reduceMul, Nat.reduceSub, Nat.reduceBEq, Nat.reduceBNe, Nat.reduceBeqDiff, Nat.reduceLT, Nat.reduceLeDiff, Nat.reduceEqDiff, Nat.reduceDiv, Nat.reduceMod, Nat.reducePow, Int.reduceLT, Int.reduceLE, Int.reduceGT, Int.reduceGE, Int.reduceEq, Int.reduceNe, Int.reduceToNat, Int.reduceNeg, Int.reducePow, Int.reduceAdd, Int.reduceMul, Int.reduceSub, Int.reduceBEq, Int.reduceMod, Int.reduceDiv, Int.reduceNatCast, Nat.min_def, Int.add_sub_cancel, Int.add_zero, Nat.add_zero, Nat.zero_add, Int.zero_add, Int.natCast_add, Int.natCast_mul, List.length_append, List.length_take, List.length_drop, List.length_replicate, List.length_set, tdv, tmd, fdv, s64, u64, u8m, ilt_t, ilt_f, ile_t, ile_f, ieq_t, ieq_f, nlt_t, nlt_f, nle_t, nle_f, neq_t, neq_f, Int.toNat_natCast, upto_length, nS, Int.natCast_emod]
        · by_cases h8 : m ≤ 8
          · have hn : nS m ≤ 64 := by
              rcases (show m = 0 ∨ m = 1 ∨ m = 2 ∨ m = 3 ∨ m = 4 ∨ m = 5 ∨ m = 6 ∨ m = 7 ∨ m = 8 by omega) with rfl | rfl | rfl | rfl | rfl | rfl | rfl | rfl | rfl <;> decide
            rw [decide_eq_true h8, decide_eq_true hn] at hOk2
            simp -implicitDefEqProofs (maxSteps := 4000000) (disch := omega) only [go_sem, ↓Nat.reduceBEq, ↓Nat.reduceEqDiff, ↓Nat.reduceLT, ↓Nat.reduceLeDiff, ↓Int.reduceEq, ↓Int.reduceLT, ↓Int.reduceLE, ↓reduceIte, reduceCtorEq, reduceDIte, Nat.reduceAdd, Nat.reduceMul, Nat.reduceSub, Nat.reduceBEq, Nat.reduceBNe, Nat.reduceBeqDiff, Nat.reduceLT, Nat.reduceLeDiff, Nat.reduceEqDiff, Nat.reduceDiv, Nat.reduceMod, Nat.reducePow, Int.reduceLT, Int.reduceLE, Int.reduceGT, Int.reduceGE, Int.reduceEq, Int.reduceNe, Int.reduceToNat, Int.reduceNeg, Int.reducePow, Int.reduceAdd, Int.reduceMul, Int.reduceSub, Int.reduceBEq, Int.reduceMod, Int.reduceDiv, Int.reduceNatCast, Nat.min_def, Int.add_sub_cancel, Int.add_zero, Nat.add_zero, Nat.zero_add, Int.zero_add, Int.natCast_add, Int.natCast_mul, List.length_append, List.length_take, List.length_drop, List.length_replicate, List.length_set, tdv, tmd, fdv, s64, u64, u8m, ilt_t, ilt_f, ile_t, ile_f, ieq_t, ieq_f, nlt_t, nlt_f, nle_t, nle_f, neq_t, neq_f, Int.toNat_natCast, hAny, hOk2, awake7]
            ((repeat' split) <;> (change _ = true; kernel_rfl))
          · have h9 : 9 ≤ m := by omega
            rw [decide_eq_false h8] at hOk2
            clear h8
            simp -implicitDefEqProofs (maxSteps := 4000000) (disch := omega) only [go_sem, ↓Nat.reduceBEq, ↓Nat.reduceEqDiff, ↓Nat.reduceLT, ↓Nat.reduceLeDiff, ↓Int.reduceEq, ↓Int.reduceLT, ↓Int.reduceLE, ↓reduceIte, reduceCtorEq, reduceDIte, Nat.reduceAdd, Nat.reduceMul, Nat.reduceSub, Nat.reduceBEq, Nat.reduceBNe, Nat.reduceBeqDiff, Nat.reduceLT, Nat.reduceLeDiff, Nat.reduceEqDiff, Nat.reduceDiv, Nat.reduceMod, Nat.reducePow, Int.reduceLT, Int.reduceLE, Int.reduceGT, Int.reduceGE, Int.reduceEq, Int.reduceNe, Int.reduceToNat, Int.reduceNeg, Int.reducePow, Int.reduceAdd, Int.reduceMul, Int.reduceSub, Int.reduceBEq, Int.reduceMod, Int.reduceDiv, Int.reduceNatCast, Nat.min_def, Int.add_sub_cancel, Int.add_zero, Nat.add_zero, Nat.zero_add, Int.zero_add, Int.natCast_add, Int.natCast_mul, List.length_append, List.length_take, List.length_drop, List.length_replicate, List.length_set, tdv, tmd, fdv, s64, u64, u8m, ilt_t, ilt_f, ile_t, ile_f, ieq_t, ieq_f, nlt_t, nlt_f, nle_t, nle_f, neq_t, neq_f, Int.toNat_natCast, hAny, hOk2, awake7]
            ((repeat' split) <;> (change _ = true; kernel_rfl))
end Go.Proofs.Ytgnjnkmjcahkeaa.D
