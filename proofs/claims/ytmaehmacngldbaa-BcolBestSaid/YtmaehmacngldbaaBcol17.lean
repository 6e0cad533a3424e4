/- Columns of bytes: few words take few bits. -/
import Derived.Test.YtmaehmacngldbaaBcol14b
namespace Go.Proofs.Ytmaehmacngldbaa.D
open Go Go.Den
set_option linter.unusedSimpArgs false
set_option linter.unusedVariables false
set_option maxRecDepth 20000
set_option maxHeartbeats 8000000
theorem sum_sub (f : List Int → Nat) : ∀ {W u : List (List Int)}, u.Nodup → (∀ y ∈ u, y ∈ W) → (u.map f).sum ≤ (W.map f).sum
  | [], u, _, h => by
    cases u with
    | nil => simp
    | cons y r => exact absurd (h y (by simp)) (by simp)
  | w :: W, u, hn, h => by
    by_cases hw : w ∈ u
    · have hp := List.perm_cons_erase hw
      have e : (u.map f).sum = f w + ((u.erase w).map f).sum := by
        rw [(hp.map f).sum_nat]; simp
      have ih := sum_sub f (W := W) (u := u.erase w) (hn.sublist (List.erase_sublist)) fun y hy => by
        have hy' := (List.Nodup.mem_erase_iff hn).1 hy
        have := h y hy'.2
        rcases List.mem_cons.1 this with rfl | this
        · exact absurd rfl hy'.1
        · exact this
      rw [e]
      simp only [List.map_cons, List.sum_cons]
      omega
    · have ih := sum_sub f (W := W) hn fun y hy => by
        have := h y hy
        rcases List.mem_cons.1 this with rfl | this
        · exact absurd hy hw
        · exact this
      simp only [List.map_cons, List.sum_cons]
      omega
theorem SB_nodup {L : List RB'} (h : SB L) : (L.map bz).Nodup := by
  unfold SB at h
  rw [List.nodup_iff_pairwise_ne, List.pairwise_map]
  refine h.imp fun {a b} hab he => ?_
  rw [he, ltB_irrefl] at hab
  cases hab
theorem toldO_small {o : RB'} (h : (bz o).length ≤ 64) : (toldO false o).length = (bz o).length + 1 := by
  have h1 := num_len 0 (u := ((bz o).length : Int)) (by omega) (by omega)
  have h2 := num_pos ((bz o).length : Int)
  simp only [toldO, Bool.false_eq_true, if_false, List.length_append]
  omega
theorem toldL_sum {L : List RB'} (h : ∀ o ∈ L, (bz o).length ≤ 64) : (toldL false L).length = ((L.map bz).map fun x => x.length + 1).sum := by
  induction L with
  | nil => rfl
  | cons x r ih =>
    rw [toldL_cons, List.length_append, toldO_small (h x (by simp)), ih fun o ho => h o (by simp [ho])]
    simp
def wd (i : Int) : List Int :=
  if i = 0 then [110, 111, 114, 116, 104, 45, 110, 111, 114, 116, 104, 45, 101, 97, 115, 116]
  else if i = 1 then [115, 111, 117, 116, 104, 45, 115, 111, 117, 116, 104, 45, 119, 101, 115, 116]
  else if i = 2 then [101, 97, 115, 116]
  else [97, 32, 114, 97, 116, 104, 101, 114, 32, 108, 111, 110, 103, 32, 119, 111, 114, 100, 32, 116, 104, 97, 116, 32, 115, 116, 97, 110, 100, 115, 32, 104, 101, 114, 101, 32, 111, 102, 116, 101, 110]
def bstL (l : List Int) (m : Nat) : List RB' := (List.range m).map fun i => some (wd (l.getD i 0 % 4))
theorem bstL_succ (l : List Int) {m : Nat} {n : Int} (h : l[m]? = some n) : bstL l (m + 1) = bstL l m ++ [some (wd (n % 4))] := by
  simp [bstL, List.range_succ, h]
theorem bstL_len (l : List Int) (m : Nat) : (bstL l m).length = m := by simp [bstL]
theorem wd_mem (i : Int) : wd i ∈ [wd 0, wd 1, wd 2, wd 3] := by
  have h : wd i = wd 0 ∨ wd i = wd 1 ∨ wd i = wd 2 ∨ wd i = wd 3 := by
    by_cases h0 : i = 0
    · subst h0; exact .inl rfl
    by_cases h1 : i = 1
    · subst h1; exact .inr (.inl rfl)
    by_cases h2 : i = 2
    · subst h2; exact .inr (.inr (.inl rfl))
    · refine .inr (.inr (.inr ?_))
      show wd i = wd 3
      unfold wd
      rw [if_neg h0, if_neg h1, if_neg h2, if_neg (by decide), if_neg (by decide), if_neg (by decide)]
  rcases h with h | h | h | h <;> rw [h] <;> simp
theorem wd_R8 (i : Int) : R8 (wd i) ∧ (wd i).length ≤ 64 := by
  unfold wd
  repeat' split
  all_goals exact ⟨fun z hz => by simp at hz; omega, by decide⟩
theorem bstL_mem (l : List Int) (m : Nat) : ∀ o ∈ bstL l m, bz o ∈ [wd 0, wd 1, wd 2, wd 3] := fun o ho => by
  obtain ⟨i, _, rfl⟩ := List.mem_map.1 ho
  exact wd_mem _
theorem bstL_B64 (l : List Int) (m : Nat) : B64 (bstL l m) := fun o ho => by
  obtain ⟨i, _, rfl⟩ := List.mem_map.1 ho
  exact wd_R8 _
theorem pickB_le (a b : List Int) : (pickB a b).length ≤ a.length ∧ (pickB a b).length ≤ b.length := by
  rcases pickB_cases a b with ⟨e, h⟩ | ⟨e, h⟩ <;> rw [e] <;> omega
theorem best_words (l : List Int) {m : Nat} (hm : m ≤ 60) : (refBest false (bstL l m)).length ≤ 84 + m / 4 := by
  have h64 := bstL_B64 l m
  have hlen := bstL_len l m
  have hmem := bstL_mem l m
  generalize bstL l m = L at *
  have hu : ∀ y ∈ (unlikeO L).map bz, y ∈ [wd 0, wd 1, wd 2, wd 3] := fun y hy => by
    obtain ⟨o, ho, rfl⟩ := List.mem_map.1 hy
    exact hmem o (unlikeO_sub ho)
  have h1 := sum_sub (fun x => x.length + 1) (SB_nodup (unlikeO_sorted L)) hu
  have h2 := sum_sub (fun _ => 1) (SB_nodup (unlikeO_sorted L)) hu
  rw [← toldL_sum fun o ho => (h64 o (unlikeO_sub ho)).2] at h1
  have e1 : (([wd 0, wd 1, wd 2, wd 3].map fun x => x.length + 1).sum) = 81 := by decide
  have e2 : (([wd 0, wd 1, wd 2, wd 3].map fun _ => 1).sum) = 4 := by decide
  have e3 : (((unlikeO L).map bz).map fun _ => 1).sum = (unlikeO L).length := by
    rw [List.map_const', List.sum_replicate_nat, List.length_map, Nat.mul_one]
  rw [e1] at h1
  rw [e2, e3] at h2
  have hw : width ((unlikeO L).length - 1) ≤ 2 := by
    have : (unlikeO L).length - 1 = 0 ∨ (unlikeO L).length - 1 = 1 ∨ (unlikeO L).length - 1 = 2 ∨ (unlikeO L).length - 1 = 3 := by omega
    rcases this with h | h | h | h <;> rw [h] <;> decide
  have hp := packL_length (width ((unlikeO L).length - 1)) (idxsO L)
  have hil : (idxsO L).length = L.length := by simp [idxsO]
  rw [hil, hlen] at hp
  have hpm : width ((unlikeO L).length - 1) * m ≤ 2 * m := Nat.mul_le_mul_right _ hw
  have hn := num_len 0 (u := ((unlikeO L).length : Int)) (by omega) (by omega)
  unfold refBest
  rw [if_neg (by omega)]
  simp only [Bool.false_eq_true, if_false]
  have hb := (pickB_le (pickB (1 :: toldL false L) (2 :: rnsO false L)) (4 :: dictO false L)).2
  have hd : (4 :: dictO false L : List Int).length ≤ 84 + m / 4 := by
    unfold dictO
    simp only [List.length_cons, List.length_append]
    omega
  omega
theorem best_same (o : RB') (h : (bz o).length ≤ 41) {n : Nat} (h1 : 1 ≤ n) (hn : n ≤ 256) : (refBest false (List.replicate n o)).length ≤ 45 := by
  obtain ⟨m, rfl⟩ : ∃ m, n = m + 1 := ⟨n - 1, by omega⟩
  have hr : rnO o (List.replicate m o) = m := by
    unfold rnO
    rw [List.takeWhile_replicate]
    simp
  have e : rnsO false (List.replicate (m + 1) o) = num ((1 + m : Nat) : Int) ++ toldO false o := by
    rw [List.replicate_succ, rnsO_cons, hr]
    have : (List.replicate m o).drop m = [] := by simp
    rw [this, rnsO_nil, List.append_nil]
  have h2 := num_len 1 (u := ((1 + m : Nat) : Int)) (by omega) (by omega)
  have h3 := toldO_small (o := o) (by omega)
  unfold refBest
  rw [if_neg (by rw [List.length_replicate]; omega)]
  simp only [Bool.false_eq_true, if_false]
  have a := (pickB_le (pickB (1 :: toldL false (List.replicate (m + 1) o)) (2 :: rnsO false (List.replicate (m + 1) o))) (4 :: dictO false (List.replicate (m + 1) o))).1
  have b := (pickB_le (1 :: toldL false (List.replicate (m + 1) o)) (2 :: rnsO false (List.replicate (m + 1) o))).2
  have hd : (2 :: rnsO false (List.replicate (m + 1) o) : List Int).length ≤ 45 := by
    rw [e]
    simp only [List.length_cons, List.length_append]
    omega
  omega
def wordsP : List (List PV) := [[.str [110, 111, 114, 116, 104, 45, 110, 111, 114, 116, 104, 45, 101, 97, 115, 116]], [.str [115, 111, 117, 116, 104, 45, 115, 111, 117, 116, 104, 45, 119, 101, 115, 116]], [.str [101, 97, 115, 116]], [.str [97, 32, 114, 97, 116, 104, 101, 114, 32, 108, 111, 110, 103, 32, 119, 111, 114, 100, 32, 116, 104, 97, 116, 32, 115, 116, 97, 110, 100, 115, 32, 104, 101, 114, 101, 32, 111, 102, 116, 101, 110]]]
theorem imp_of {P Q : Prop} (h : P → Q) (p : P) : Q := h p
theorem bestB_len {L : List RB'} (h : B64 L) (hl : L.length ≤ 65535) : (refBest false L).length ≤ 9000001 := by
  obtain ⟨k, _, _, hk, _⟩ := bestB hl
  exact (tell_facts h hl hk).2.2
theorem BcolBest_spec {l : List Int} {n : Int} : dw E 5 [.sl 1 (ints .i64 l), .int .i64 n] [] = some (.bool true, []) := by
  have hA := awake5
  obtain ⟨m, hm, hm1, hm2, hm3⟩ : ∃ m : Nat, min l.length 60 = m ∧ m ≤ 60 ∧ m ≤ l.length ∧ (m = l.length ∨ m = 60) := ⟨_, rfl, by omega, by omega, by omega⟩
  obtain ⟨N, hN, hN1, hN2⟩ : ∃ N : Nat, n % 256 + 1 = (N : Int) ∧ 1 ≤ N ∧ N ≤ 256 := ⟨(n % 256 + 1).toNat, by omega, by omega, by omega⟩
  have hxE := Encode_sl (L := bstL l m) (bstL_B64 l m) (by rw [bstL_len]; omega)
  have hxl := best_words l (m := m) hm1
  have hxm : ((bstL l m).map brow).length = m := by rw [List.length_map, bstL_len]
  have hsB : B64 (List.replicate N (some (wd 3))) := B64_rep (wd_R8 3)
  have hsE := Encode_sl hsB (by rw [List.length_replicate]; omega)
  have hsl := best_same (some (wd 3)) (by decide) (n := N) hN1 hN2
  have hfin : ∀ S : List PV, True := fun _ => trivial
  clear hsB
  refine dw_in (fn := Try.f5) rfl body5 (by simp) ?_
  simp -implicitDefEqProofs (maxSteps := 4000000) (disch := omega) only [go_sem, go_sem_proc, dr, Nat.min_def, ↓reduceIte]
  refine runs_for (fun i : Nat => (⟨[(0, .sl 1 (ints .i64 l)), (1, .int .i64 n), (5, .h 2097472), (6, .h 2097536), (7, .nils), (8, .int .i64 i)], [(2097472, some ⟨true, .row 9 1 wordsP⟩), (2097536, some ⟨true, .row 28 1 ((bstL l i).map brow)⟩)], 1⟩ : St)) m ?_ ?_ ?_
  · simp -implicitDefEqProofs (maxSteps := 4000000) (disch := omega) only [go_sem, go_sem_proc, dr, Nat.min_def, ↓reduceIte]
    rfl
  · intro i hi
    obtain ⟨x, hx, _, _⟩ := take_get (l := l) (i := i) (by omega)
    have hlen : ((bstL l i).map brow).length = i := by rw [List.length_map, bstL_len]
    rw [bstL_succ l hx, List.map_append, List.map_cons, List.map_nil]
    generalize (bstL l i).map brow = out at *
    have h1 : i < l.length := by omega
    have h2 : i < 60 := by omega
    have h3 : out.length ≤ 60 := by omega
    clear hi hm1 hm2 hm3 hm hxE hxl hxm hsE hsl hN hN1 hN2
    have hwl : wordsP.length = 4 := rfl
    have hq : x % 4 = 0 ∨ x % 4 = 1 ∨ x % 4 = 2 ∨ x % 4 = 3 := by omega
    rcases hq with h | h | h | h <;> rw [h]
    · have hw : wordsP[0]? = some [.str [110, 111, 114, 116, 104, 45, 110, 111, 114, 116, 104, 45, 101, 97, 115, 116]] := rfl
      simp -implicitDefEqProofs (maxSteps := 4000000) (disch := omega) only [go_sem, go_sem_proc, dr, Nat.min_def, ↓reduceIte, hx, h, hlen, hw, hwl]
      (change _ = _; kernel_rfl)
    · have hw : wordsP[1]? = some [.str [115, 111, 117, 116, 104, 45, 115, 111, 117, 116, 104, 45, 119, 101, 115, 116]] := rfl
      simp -implicitDefEqProofs (maxSteps := 4000000) (disch := omega) only [go_sem, go_sem_proc, dr, Nat.min_def, ↓reduceIte, hx, h, hlen, hw, hwl]
      (change _ = _; kernel_rfl)
    · have hw : wordsP[2]? = some [.str [101, 97, 115, 116]] := rfl
      simp -implicitDefEqProofs (maxSteps := 4000000) (disch := omega) only [go_sem, go_sem_proc, dr, Nat.min_def, ↓reduceIte, hx, h, hlen, hw, hwl]
      (change _ = _; kernel_rfl)
    · have hw : wordsP[3]? = some [.str [97, 32, 114, 97, 116, 104, 101, 114, 32, 108, 111, 110, 103, 32, 119, 111, 114, 100, 32, 116, 104, 97, 116, 32, 115, 116, 97, 110, 100, 115, 32, 104, 101, 114, 101, 32, 111, 102, 116, 101, 110]] := rfl
      simp -implicitDefEqProofs (maxSteps := 4000000) (disch := omega) only [go_sem, go_sem_proc, dr, Nat.min_def, ↓reduceIte, hx, h, hlen, hw, hwl]
      (change _ = _; kernel_rfl)
  · have hend : m = l.length ∨ (m = 60 ∧ 60 < l.length) := by omega
    clear hm hm2 hm3
    obtain ⟨G, hG⟩ : ∃ G : List Int, G = refBest false (bstL l m) := ⟨_, rfl⟩
    obtain ⟨G2, hG2⟩ : ∃ G2 : List Int, G2 = refBest false (List.replicate N (some (wd 3))) := ⟨_, rfl⟩
    rw [← hG] at hxE hxl
    rw [← hG2] at hsE hsl
    clear hG hG2
    generalize (bstL l m).map brow = XB at *
    have hstep : ∀ {P : Prop}, P → P := fun h => h
    apply imp_of
    · intro hst
      rcases hend with e | ⟨e, e2⟩
      · simp -implicitDefEqProofs (maxSteps := 4000000) (disch := omega) only [go_sem, go_sem_proc, dr, Nat.min_def, ↓reduceIte, e, hN]
        refine runs_for (fun i : Nat => (⟨[(1, .int .i64 N), (5, .h 2097472), (6, .h 2097536), (7, .h 2097600), (9, .int .i64 i)], [(2097472, some ⟨true, .row 9 1 wordsP⟩), (2097536, some ⟨true, .row 28 1 XB⟩), (2097600, some ⟨true, .row 28 1 ((List.replicate i (some (wd 3))).map brow)⟩)], 1⟩ : St)) N ?_ hst ?_
        · simp -implicitDefEqProofs (maxSteps := 4000000) (disch := omega) only [go_sem, go_sem_proc, dr, Nat.min_def, ↓reduceIte, hN]
          rfl
        · simp -implicitDefEqProofs (maxSteps := 4000000) (disch := omega) only [go_sem, go_sem_proc, dr, Nat.min_def, ↓reduceIte, hxE, hsE, hxm, hA]
      · simp -implicitDefEqProofs (maxSteps := 4000000) (disch := omega) only [go_sem, go_sem_proc, dr, Nat.min_def, ↓reduceIte, e, hN]
        refine runs_for (fun i : Nat => (⟨[(1, .int .i64 N), (5, .h 2097472), (6, .h 2097536), (7, .h 2097600), (9, .int .i64 i)], [(2097472, some ⟨true, .row 9 1 wordsP⟩), (2097536, some ⟨true, .row 28 1 XB⟩), (2097600, some ⟨true, .row 28 1 ((List.replicate i (some (wd 3))).map brow)⟩)], 1⟩ : St)) N ?_ hst ?_
        · simp -implicitDefEqProofs (maxSteps := 4000000) (disch := omega) only [go_sem, go_sem_proc, dr, Nat.min_def, ↓reduceIte, hN]
          rfl
        · simp -implicitDefEqProofs (maxSteps := 4000000) (disch := omega) only [go_sem, go_sem_proc, dr, Nat.min_def, ↓reduceIte, hxE, hsE, hxm, hA]
    intro i hi
    have hlen : ((List.replicate i (some (wd 3))).map brow).length = i := by simp
    have hn2 : (List.replicate (i + 1) (some (wd 3))).map brow = (List.replicate i (some (wd 3))).map brow ++ [brow (some (wd 3))] := by rw [List.replicate_succ', List.map_append]; rfl
    rw [hn2]
    generalize (List.replicate i (some (wd 3))).map brow = o2 at *
    have hwl : wordsP.length = 4 := rfl
    have hw : wordsP[3]? = some [.str [97, 32, 114, 97, 116, 104, 101, 114, 32, 108, 111, 110, 103, 32, 119, 111, 114, 100, 32, 116, 104, 97, 116, 32, 115, 116, 97, 110, 100, 115, 32, 104, 101, 114, 101, 32, 111, 102, 116, 101, 110]] := rfl
    simp -implicitDefEqProofs (maxSteps := 4000000) (disch := omega) only [go_sem, go_sem_proc, dr, Nat.min_def, ↓reduceIte, hlen, hw, hwl]
    (change _ = _; kernel_rfl)
end Go.Proofs.Ytmaehmacngldbaa.D
