/- A column of numbers: one of them; columns that are the same; what the laws draw. -/
import Derived.Test.YtojaklgmojmjeaaIcol9
namespace Go.Proofs.Ytojaklgmojmjeaa.D
open Go Go.Den
set_option linter.unusedSimpArgs false
set_option linter.unusedVariables false
set_option maxRecDepth 20000
set_option maxHeartbeats 8000000
theorem awake4 : dw E 10 [] [] = some (.bool true, []) := dw_of (k := 200) (by kernel_rfl)
theorem decL_count {b : List Int} {c : Int} (h : c < 0 ∨ 65535 < c ∨ b = []) : decL b c = none := by
  unfold decL
  split
  · rfl
  · rename_i k zs
    rw [if_neg]
    rcases h with h | h | h
    · omega
    · omega
    · cases h
theorem Decode_any {b : List Int} {c : Int} (h8 : R8 b) (hl : b.length ≤ 100000000) : ∃ Y, dw E 8 [.sl 1 (ints .u8 b), .int .i64 c] [] = some (Y, []) ∧ DecR (decL b c) Y := by
  by_cases h : c < 0 ∨ 65535 < c ∨ b = []
  · rw [decL_count h]
    exact ⟨_, Decode_bad h (by omega), rfl⟩
  · cases b with
    | nil => exact absurd (.inr (.inr rfl)) h
    | cons k zs =>
      obtain ⟨n, rfl⟩ := Int.eq_ofNat_of_zero_le (a := c) (by omega)
      simp only [List.length_cons] at hl
      exact Decode_sl h8 (by omega) (by omega)
def atL (b : List Int) (c i : Int) : Option Int := match decL b c with
  | none => none
  | some l => if i < 0 then none else l[i.toNat]?
def atR : Option Int → PV
  | none => .tup [.int .i64 0, .bool false]
  | some x => .tup [.int .i64 x, .bool true]
theorem decL_len {b l : List Int} {c : Int} (h : decL b c = some l) : (l.length : Int) = c ∧ l.length ≤ 65535 := by
  obtain ⟨k, zs, rfl, ht, hc⟩ := decL_some h
  refine ⟨hc, ?_⟩
  unfold tellL at ht
  split at ht
  · cases ht
  · omega
theorem At_any {b : List Int} {c i : Int} (h8 : R8 b) (hl : b.length ≤ 100000000) : dw E 9 [.sl 1 (ints .u8 b), .int .i64 c, .int .i64 i] [] = some (atR (atL b c i), []) := by
  obtain ⟨Y, hY, hD⟩ := Decode_any (c := c) h8 hl
  unfold atL
  cases hd : decL b c with
  | none =>
    rw [hd] at hD
    have hD : Y = .tup [.nils, .bool false] := hD
    subst hD
    refine dw_in (fn := Try.f9) rfl body9 (by simp) ?_
    simp -implicitDefEqProofs (maxSteps := 4000000) (disch := omega) only [go_sem, go_sem_proc, dr, Nat.min_def, ↓reduceIte, hY, atR]
  | some l =>
    have hll := decL_len hd
    rw [hd] at hD
    obtain ⟨X, hX, rfl⟩ := hD
    dsimp only
    by_cases hi : i < 0
    · rw [if_pos hi]
      rcases hX with rfl | ⟨rfl, rfl⟩ <;> (refine dw_in (fn := Try.f9) rfl body9 (by simp) ?_) <;> simp -implicitDefEqProofs (maxSteps := 4000000) (disch := omega) only [go_sem, go_sem_proc, dr, Nat.min_def, ↓reduceIte, hY, atR]
    · rw [if_neg hi]
      cases hg : l[i.toNat]? with
      | none =>
        have hge : (l.length : Int) ≤ i := by
          have := List.getElem?_eq_none_iff.1 hg
          omega
        rcases hX with rfl | ⟨rfl, rfl⟩
        · refine dw_in (fn := Try.f9) rfl body9 (by simp) ?_
          simp -implicitDefEqProofs (maxSteps := 4000000) (disch := omega) only [go_sem, go_sem_proc, dr, Nat.min_def, ↓reduceIte, hY, atR]
        · simp only [List.length_nil] at hge
          have hge : 0 ≤ i := by omega
          refine dw_in (fn := Try.f9) rfl body9 (by simp) ?_
          simp -implicitDefEqProofs (maxSteps := 4000000) (disch := omega) only [go_sem, go_sem_proc, dr, Nat.min_def, ↓reduceIte, hY, atR]
      | some x =>
        have hlt : i < (l.length : Int) := by
          have := (List.getElem?_eq_some_iff.1 hg).1
          omega
        rcases hX with rfl | ⟨rfl, rfl⟩
        · refine dw_in (fn := Try.f9) rfl body9 (by simp) ?_
          simp -implicitDefEqProofs (maxSteps := 4000000) (disch := omega) only [go_sem, go_sem_proc, dr, Nat.min_def, ↓reduceIte, hY, atR, hg]
        · simp only [List.length_nil] at hlt
          omega
theorem SameInts_sl {a b : List Int} (ha : a.length ≤ 1000000) (hb : b.length ≤ 1000000) : dw E 13 [.sl 1 (ints .i64 a), .sl 1 (ints .i64 b)] [] = some (.bool (decide (a = b)), []) := by
  refine dw_in (fn := Try.f13) rfl body13 (by simp) ?_
  obtain ⟨L, hL⟩ : ∃ L : Int, (a.length : Int) = L := ⟨_, rfl⟩
  obtain ⟨M, hM⟩ : ∃ M : Int, (b.length : Int) = M := ⟨_, rfl⟩
  by_cases hl : a.length = b.length
  · have hLM : L = M := by omega
    subst hLM
    simp -implicitDefEqProofs (maxSteps := 4000000) (disch := omega) only [go_sem, go_sem_proc, dr, Nat.min_def, ↓reduceIte, hL, hM]
    refine runs_any (fun i : Nat => (⟨[(0, .sl 1 (ints .i64 a)), (1, .sl 1 (ints .i64 b)), (5, .int .i64 i)], [], 1⟩ : St)) (fun i => a.length - i) 0 (fun i => i ≤ a.length ∧ a.take i = b.take i) ⟨Nat.zero_le _, by simp⟩ ?_ ?_
    · simp -implicitDefEqProofs (maxSteps := 4000000) (disch := omega) only [go_sem, go_sem_proc, dr, Nat.min_def, ↓reduceIte]
    · rintro i ⟨hi, ht⟩
      by_cases hlt : i < a.length
      · obtain ⟨x, hx, _, h1⟩ := take_get hlt
        obtain ⟨y, hy, _, h2⟩ := take_get (l := b) (i := i) (by omega)
        have hiL : (i : Int) < L := by omega
        by_cases hxy : x = y
        · subst hxy
          simp -implicitDefEqProofs (maxSteps := 4000000) (disch := omega) only [go_sem, go_sem_proc, dr, Nat.min_def, ↓reduceIte, hL, hM, hx, hy]
          exact ⟨by ((repeat' split) <;> (change _ = true; kernel_rfl)), i + 1, rfl, ⟨by omega, by rw [h1, h2, ht]⟩, by omega⟩
        · have hxy' := eq_false hxy
          have hab : a ≠ b := fun h => by
            subst h
            rw [hx] at hy
            injection hy with hy
            exact hxy hy
          rw [decide_eq_false hab]
          clear hab hxy
          simp -implicitDefEqProofs (maxSteps := 4000000) (disch := omega) only [go_sem, go_sem_proc, dr, Nat.min_def, ↓reduceIte, hL, hM, hx, hy, hxy']
          ((repeat' split) <;> (change _ = true; kernel_rfl))
      · have hia : i = a.length := by omega
        have hab : a = b := by
          subst hia
          rw [List.take_length, hl, List.take_length] at ht
          exact ht
        rw [decide_eq_true hab]
        have hLi : L = (i : Int) := by omega
        clear hab ht
        simp -implicitDefEqProofs (maxSteps := 4000000) (disch := omega) only [go_sem, go_sem_proc, dr, Nat.min_def, ↓reduceIte, hL, hLi]
  · have hab : a ≠ b := fun h => hl (by rw [h])
    rw [decide_eq_false hab]
    have hLM : (L = M) = False := eq_false (by omega)
    clear hab
    simp -implicitDefEqProofs (maxSteps := 4000000) (disch := omega) only [go_sem, go_sem_proc, dr, Nat.min_def, ↓reduceIte, hL, hM, hLM]
theorem SameInts_spec {X Y : PV} {a b : List Int} (hX : IsI X a) (hY : IsI Y b) (ha : a.length ≤ 1000000) (hb : b.length ≤ 1000000) : dw E 13 [X, Y] [] = some (.bool (decide (a = b)), []) := by
  rcases hX with rfl | ⟨rfl, rfl⟩
  · rcases hY with rfl | ⟨rfl, rfl⟩
    · exact SameInts_sl ha hb
    · have e : decide (a = []) = decide ((a.length : Int) = 0) := by
        cases a with
        | nil => rfl
        | cons x r => simp; omega
      rw [e]
      obtain ⟨L, hL⟩ : ∃ L : Int, (a.length : Int) = L := ⟨_, rfl⟩
      rw [hL]
      refine dw_in (fn := Try.f13) rfl body13 (by simp) ?_
      by_cases h0 : L = 0
      · have hl0 : a = [] := List.length_eq_zero_iff.1 (by omega)
        subst hl0
        subst h0
        simp -implicitDefEqProofs (maxSteps := 4000000) (disch := omega) only [go_sem, go_sem_proc, dr, Nat.min_def, ↓reduceIte, List.length_nil]
        refine runs_for (fun i : Nat => (⟨[(0, .sl 1 []), (1, .nils), (5, .int .i64 i)], [], 1⟩ : St)) 0 ?_ (fun i h => absurd h (Nat.not_lt_zero i)) ?_
        · simp -implicitDefEqProofs (maxSteps := 4000000) (disch := omega) only [go_sem, go_sem_proc, dr, Nat.min_def, ↓reduceIte, ints, List.map_nil]
        · simp -implicitDefEqProofs (maxSteps := 4000000) (disch := omega) only [go_sem, go_sem_proc, dr, Nat.min_def, ↓reduceIte]
      · have h0' := eq_false h0
        rw [decide_eq_false h0]
        simp -implicitDefEqProofs (maxSteps := 4000000) (disch := omega) only [go_sem, go_sem_proc, dr, Nat.min_def, ↓reduceIte, hL, h0']
  · rcases hY with rfl | ⟨rfl, rfl⟩
    · have e : decide ([] = b) = decide (0 = (b.length : Int)) := by
        cases b with
        | nil => rfl
        | cons x r => simp; omega
      rw [e]
      obtain ⟨L, hL⟩ : ∃ L : Int, (b.length : Int) = L := ⟨_, rfl⟩
      rw [hL]
      refine dw_in (fn := Try.f13) rfl body13 (by simp) ?_
      by_cases h0 : L = 0
      · have hl0 : b = [] := List.length_eq_zero_iff.1 (by omega)
        subst hl0
        subst h0
        simp -implicitDefEqProofs (maxSteps := 4000000) (disch := omega) only [go_sem, go_sem_proc, dr, Nat.min_def, ↓reduceIte, List.length_nil]
        refine runs_for (fun i : Nat => (⟨[(0, .nils), (1, .sl 1 []), (5, .int .i64 i)], [], 1⟩ : St)) 0 ?_ (fun i h => absurd h (Nat.not_lt_zero i)) ?_
        · simp -implicitDefEqProofs (maxSteps := 4000000) (disch := omega) only [go_sem, go_sem_proc, dr, Nat.min_def, ↓reduceIte, ints, List.map_nil]
        · simp -implicitDefEqProofs (maxSteps := 4000000) (disch := omega) only [go_sem, go_sem_proc, dr, Nat.min_def, ↓reduceIte]
      · have h0' : (0 = L) = False := eq_false (by omega)
        rw [decide_eq_false (by omega)]
        simp -implicitDefEqProofs (maxSteps := 4000000) (disch := omega) only [go_sem, go_sem_proc, dr, Nat.min_def, ↓reduceIte, hL, h0']
    · refine dw_in (fn := Try.f13) rfl body13 (by simp) ?_
      simp -implicitDefEqProofs (maxSteps := 4000000) (disch := omega) only [go_sem, go_sem_proc, dr, Nat.min_def, ↓reduceIte]
      refine runs_for (fun i : Nat => (⟨[(0, .nils), (1, .nils), (5, .int .i64 i)], [], 1⟩ : St)) 0 ?_ (fun i h => absurd h (Nat.not_lt_zero i)) ?_
      · simp -implicitDefEqProofs (maxSteps := 4000000) (disch := omega) only [go_sem, go_sem_proc, dr, Nat.min_def, ↓reduceIte]
      · simp -implicitDefEqProofs (maxSteps := 4000000) (disch := omega) only [go_sem, go_sem_proc, dr, Nat.min_def, ↓reduceIte]
def colV (how : Int) (i : Nat) (n : Int) : Int :=
  if how % 8 = 0 then n % 4 else if how % 8 = 1 then 1000000 + n % 64 else if how % 8 = 2 then (i : Int) / 7 * 1000 else if how % 8 = 3 then n % 2 * 4611686018427387904 else if how % 8 = 4 then 5 else n
def colL (how : Int) (l : List Int) (m : Nat) : List Int := (List.range m).map fun i => colV how i (l.getD i 0)
theorem colL_succ (how : Int) (l : List Int) {m : Nat} {n : Int} (h : l[m]? = some n) : colL how l (m + 1) = colL how l m ++ [colV how m n] := by
  simp [colL, List.range_succ, h]
theorem colL_len (how : Int) (l : List Int) (m : Nat) : (colL how l m).length = m := by simp [colL]
theorem colL_r (how : Int) {l : List Int} (hr : Ri64 l) {m : Nat} (hm : m ≤ 60) : Ri64 (colL how l m) := by
  intro z hz
  obtain ⟨i, hi, rfl⟩ := List.mem_map.1 hz
  have hi := List.mem_range.1 hi
  have := getD_r hr i
  unfold colV
  repeat' split
  all_goals omega
theorem Column_spec {l : List Int} {how : Int} (hr : Ri64 l) : dw E 14 [.sl 1 (ints .i64 l), .int .i64 how] [] = some (.nr 2 1 (ints .i64 (colL how l (min l.length 60))), []) := by
  obtain ⟨m, hm, hm1, hm2, hm3⟩ : ∃ m : Nat, min l.length 60 = m ∧ m ≤ 60 ∧ m ≤ l.length ∧ (m = l.length ∨ m = 60) := ⟨_, rfl, by omega, by omega, by omega⟩
  rw [hm]
  refine dw_in (fn := Try.f14) rfl body14 (by simp) ?_
  simp -implicitDefEqProofs (maxSteps := 4000000) (disch := omega) only [go_sem, go_sem_proc, dr, Nat.min_def, ↓reduceIte]
  refine runs_for (fun i : Nat => (⟨[(0, .sl 1 (ints .i64 l)), (1, .int .i64 how), (5, .h 2097472), (6, .int .i64 i)], [(2097472, some ⟨true, .row 2 1 (ints .i64 (colL how l i))⟩)], 1⟩ : St)) m ?_ ?_ ?_
  · simp -implicitDefEqProofs (maxSteps := 4000000) (disch := omega) only [go_sem, go_sem_proc, dr, Nat.min_def, ↓reduceIte]
    rfl
  · intro i hi
    obtain ⟨x, hx, hm, ht⟩ := take_get (l := l) (i := i) (by omega)
    rw [colL_succ how l hx]
    have hxr := hr x hm
    have hlen := colL_len how l i
    generalize colL how l i = out at *
    have h1 : i < l.length := by omega
    have h2 : i < 60 := by omega
    have h3 : out.length ≤ 60 := by omega
    clear ht hm hr hi hlen hm1 hm2 hm3
    have h8 : how % 8 = 0 ∨ how % 8 = 1 ∨ how % 8 = 2 ∨ how % 8 = 3 ∨ how % 8 = 4 ∨ 5 ≤ how % 8 := by omega
    have hx2 : x % 2 = 0 ∨ x % 2 = 1 := by omega
    unfold colV
    obtain ⟨h, hh⟩ : ∃ h, how % 8 = h := ⟨_, rfl⟩
    rw [hh] at h8 ⊢
    by_cases q0 : h = 0
    · subst q0
      simp only [reduceCtorEq, ↓reduceIte, Int.reduceEq]
      simp -implicitDefEqProofs (maxSteps := 4000000) (disch := omega) only [go_sem, go_sem_proc, dr, Nat.min_def, ↓reduceIte, hx, hh]
    by_cases q1 : h = 1
    · subst q1
      simp only [reduceCtorEq, ↓reduceIte, Int.reduceEq]
      simp -implicitDefEqProofs (maxSteps := 4000000) (disch := omega) only [go_sem, go_sem_proc, dr, Nat.min_def, ↓reduceIte, hx, hh]
    by_cases q2 : h = 2
    · subst q2
      simp only [reduceCtorEq, ↓reduceIte, Int.reduceEq]
      simp -implicitDefEqProofs (maxSteps := 4000000) (disch := omega) only [go_sem, go_sem_proc, dr, Nat.min_def, ↓reduceIte, hx, hh]
    by_cases q4 : h = 4
    · subst q4
      simp only [reduceCtorEq, ↓reduceIte, Int.reduceEq]
      simp -implicitDefEqProofs (maxSteps := 4000000) (disch := omega) only [go_sem, go_sem_proc, dr, Nat.min_def, ↓reduceIte, hx, hh]
    by_cases q3 : h = 3
    · subst q3
      simp only [reduceCtorEq, ↓reduceIte, Int.reduceEq]
      rcases hx2 with e | e <;> simp -implicitDefEqProofs (maxSteps := 4000000) (disch := omega) only [go_sem, go_sem_proc, dr, Nat.min_def, ↓reduceIte, hx, e, hh]
    · have hn : x = x := rfl
      rw [if_neg q0, if_neg q1, if_neg q2, if_neg q3, if_neg q4]
      have e0 := eq_false q0
      have e1 := eq_false q1
      have e2 := eq_false q2
      have e3 := eq_false q3
      have e4 := eq_false q4
      simp -implicitDefEqProofs (maxSteps := 4000000) (disch := omega) only [go_sem, go_sem_proc, dr, Nat.min_def, ↓reduceIte, hx, hh, e0, e1, e2, e3, e4]
  · rcases hm3 with e | e
    · simp -implicitDefEqProofs (maxSteps := 4000000) (disch := omega) only [go_sem, go_sem_proc, dr, Nat.min_def, ↓reduceIte]
    · subst e
      by_cases hl : 60 < l.length
      · simp -implicitDefEqProofs (maxSteps := 4000000) (disch := omega) only [go_sem, go_sem_proc, dr, Nat.min_def, ↓reduceIte]
      · simp -implicitDefEqProofs (maxSteps := 4000000) (disch := omega) only [go_sem, go_sem_proc, dr, Nat.min_def, ↓reduceIte]
end Go.Proofs.Ytojaklgmojmjeaa.D
