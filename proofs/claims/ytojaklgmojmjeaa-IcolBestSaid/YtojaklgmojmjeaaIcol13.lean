/- The best kind takes few bytes. -/
import Derived.Test.YtojaklgmojmjeaaIcol12
namespace Go.Proofs.Ytojaklgmojmjeaa.D
open Go Go.Den
set_option linter.unusedSimpArgs false
set_option linter.unusedVariables false
set_option maxRecDepth 20000
set_option maxHeartbeats 8000000
def fillL (f : Nat → Int) (n i : Nat) : List Int := (List.range n).map fun j => if j < i then f j else 0
theorem fillL_zero (f : Nat → Int) (n : Nat) : List.replicate n 0 = fillL f n 0 := by
  unfold fillL
  simp only [Nat.not_lt_zero, ↓reduceIte, List.map_const', List.length_range]
theorem fillL_len (f : Nat → Int) (n i : Nat) : (fillL f n i).length = n := by simp [fillL]
theorem fillL_set {f : Nat → Int} {n i : Nat} (h : i < n) : (fillL f n i).set i (f i) = fillL f n (i + 1) := by
  refine List.ext_getElem (by simp [fillL]) fun j h1 h2 => ?_
  simp only [fillL, List.length_set, List.length_map, List.length_range] at h1
  rw [List.getElem_set]
  simp only [fillL, List.getElem_map, List.getElem_range]
  by_cases hij : i = j
  · subst hij; simp
  · rw [if_neg hij]
    by_cases hj : j < i
    · rw [if_pos hj, if_pos (by omega)]
    · rw [if_neg hj, if_neg (by omega)]
theorem fillL_get {f : Nat → Int} {n i : Nat} (h : i < n) : (fillL f n i)[i]? = some 0 := by simp [fillL, h]
theorem fillL_mem {f : Nat → Int} {n i : Nat} {z : Int} (hz : z ∈ fillL f n i) : z = 0 ∨ ∃ j, j < n ∧ z = f j := by
  obtain ⟨j, hj, rfl⟩ := List.mem_map.1 hz
  have hj := List.mem_range.1 hj
  split
  · exact .inr ⟨j, hj, rfl⟩
  · exact .inl rfl
theorem fillL_all {f : Nat → Int} {n : Nat} {z : Int} (hz : z ∈ fillL f n n) : ∃ j, j < n ∧ z = f j := by
  obtain ⟨j, hj, rfl⟩ := List.mem_map.1 hz
  have hj := List.mem_range.1 hj
  rw [if_pos hj]
  exact ⟨j, hj, rfl⟩
/-- what is alike is one run -/
theorem same_runs {n : Nat} {v : Int} (f : Nat → Int) (hf : ∀ j, f j = v) (hn : 1 ≤ n) : runsL (fillL f n n) = num n ++ num (zig v) := by
  have e : fillL f n n = List.replicate n v := by
    refine List.ext_getElem (by simp [fillL]) fun j h1 h2 => ?_
    simp only [fillL, List.length_map, List.length_range] at h1
    simp [fillL, h1, hf]
  rw [e]
  obtain ⟨m, rfl⟩ : ∃ m, n = m + 1 := ⟨n - 1, by omega⟩
  rw [List.replicate_succ, runsL_cons]
  have h : runLen v (List.replicate m v) = m := by
    unfold runLen
    rw [List.takeWhile_replicate]
    simp
  rw [h]
  simp [runsL_nil, Nat.add_comm]
theorem two_len : ∀ {l : List Int} {a b : Int}, l.Pairwise (· < ·) → (∀ z ∈ l, z = a ∨ z = b) → l.length ≤ 2
  | [], _, _, _, _ => by simp
  | [_], _, _, _, _ => by simp
  | [_, _], _, _, _, _ => by simp
  | x :: y :: z :: r, a, b, hp, h => by
    have h1 := h x (by simp)
    have h2 := h y (by simp)
    have h3 := h z (by simp)
    rw [List.pairwise_cons] at hp
    have h4 := hp.1 y (by simp)
    have hp2 := List.pairwise_cons.1 hp.2
    have h5 := hp2.1 z (by simp)
    omega
theorem best_len {k : Int} {l b : List Int} (hl : l.length ≤ 65535) (hb : tellL k l = some b) : (encL l).length ≤ b.length := by
  obtain ⟨_, _, _, _, h⟩ := encL_best hl
  exact (h k b hb).1
theorem len_same {N : Nat} {v : Int} {f : Nat → Int} (hf : ∀ j, f j = v) (hr : -9223372036854775808 ≤ v ∧ v < 9223372036854775808) (h8 : 8 ≤ N) (h71 : N ≤ 71) : (encL (fillL f N N)).length ≤ 12 := by
  have hz := zig_r hr
  have h1 := num_len10 hz.1 hz.2
  refine Nat.le_trans (best_len (k := 2) (b := 2 :: runsL (fillL f N N)) (by rw [fillL_len]; omega) (by unfold tellL; rw [if_neg (by rw [fillL_len]; omega)]; rfl)) ?_
  rw [same_runs f hf (by omega), num_lt (by omega) (by omega)]
  simp only [List.length_cons, List.length_append, List.length_nil]
  omega
theorem len_near {N : Nat} {nn : Int} {f : Nat → Int} (hf : ∀ j, f j = nn + (j : Int) * 7 % 16) (hr : 0 ≤ nn ∧ nn < 1099511627776) (h8 : 8 ≤ N) (h71 : N ≤ 71) : (encL (fillL f N N)).length ≤ 12 + (4 * N + 7) / 8 := by
  have hne : fillL f N N ≠ [] := fun h => by have := fillL_len f N N; rw [h] at this; simp at this; omega
  obtain ⟨j1, _, e1⟩ := fillL_all (minL_mem hne)
  obtain ⟨j2, _, e2⟩ := fillL_all (maxL_mem hne)
  rw [hf] at e1 e2
  have hz := zig_r (x := minL (fillL f N N)) (by omega)
  have h1 := num_len10 hz.1 hz.2
  have hw : wideL (fillL f N N) ≤ 4 := width_le (n := 4) (by omega)
  refine Nat.le_trans (best_len (k := 3) (b := 3 :: frameL (fillL f N N)) (by rw [fillL_len]; omega) (by unfold tellL; rw [if_neg (by rw [fillL_len]; omega)]; rfl)) ?_
  unfold frameL
  rw [if_neg hne]
  have hpl := packL_length (wideL (fillL f N N)) ((fillL f N N).map fun x => x - minL (fillL f N N))
  rw [List.length_map, fillL_len] at hpl
  have hm : wideL (fillL f N N) * N ≤ 4 * N := Nat.mul_le_mul_right _ hw
  simp only [List.length_cons, List.length_append]
  omega
theorem sq4 (j : Nat) : j * j % 4 = 0 ∨ j * j % 4 = 1 := by
  rw [Nat.mul_mod]
  have : j % 4 = 0 ∨ j % 4 = 1 ∨ j % 4 = 2 ∨ j % 4 = 3 := by omega
  rcases this with h | h | h | h <;> rw [h] <;> simp
theorem len_few {N : Nat} {c : Int} {f : Nat → Int} (hf : ∀ j, f j = ((j * j % 4 : Nat) : Int) * c) (hr : Ri64 (fillL f N N)) (h8 : 8 ≤ N) (h71 : N ≤ 71) : (encL (fillL f N N)).length ≤ 42 + (2 * N + 7) / 8 := by
  have hu : (uniq (fillL f N N)).length ≤ 2 := two_len (a := 0) (b := c) (uniq_sorted _) fun z hz => by
    obtain ⟨j, _, rfl⟩ := fillL_all (uniq_mem.1 hz)
    rw [hf]
    rcases sq4 j with h | h <;> rw [h] <;> simp
  have hur : Ri64 (uniq (fillL f N N)) := hr.sub fun x hx => uniq_mem.1 hx
  have hz := zigs_len hur
  have hw : width ((uniq (fillL f N N)).length - 1) ≤ 2 := width_le (n := 2) (by omega)
  refine Nat.le_trans (best_len (k := 4) (b := 4 :: dictL (fillL f N N)) (by rw [fillL_len]; omega) (by unfold tellL; rw [if_neg (by rw [fillL_len]; omega)]; rfl)) ?_
  unfold dictL
  have hpl := packL_length (width ((uniq (fillL f N N)).length - 1)) ((fillL f N N).map fun x => (lb (uniq (fillL f N N)) x : Int))
  rw [List.length_map, fillL_len] at hpl
  have hm : width ((uniq (fillL f N N)).length - 1) * N ≤ 2 * N := Nat.mul_le_mul_right _ hw
  rw [num_lt (by omega) (by omega)]
  simp only [List.length_cons, List.length_append, List.length_nil]
  omega
theorem IcolBest_spec {n near far : Int} (hr : -9223372036854775808 ≤ near ∧ near < 9223372036854775808) : dw E 4 [.int .i64 n, .int .i64 near, .int .i64 far] [] = some (.bool true, []) := by
  obtain ⟨N, hN, hN8, hN71⟩ : ∃ N : Nat, n % 64 + 8 = (N : Int) ∧ 8 ≤ N ∧ N ≤ 71 := ⟨(n % 64 + 8).toNat, by omega, by omega, by omega⟩
  obtain ⟨fn, hfn⟩ : ∃ fn : Int, far % 65536 = fn := ⟨_, rfl⟩
  have hfr : 0 ≤ fn ∧ fn < 65536 := by omega
  obtain ⟨nn, hnn⟩ : ∃ nn : Int, near % 1099511627776 = nn := ⟨_, rfl⟩
  have hnr : 0 ≤ nn ∧ nn < 1099511627776 := by omega
  obtain ⟨f1, hf1⟩ : ∃ f1 : Nat → Int, ∀ j, f1 j = near := ⟨fun _ => near, fun _ => rfl⟩
  obtain ⟨f2, hf2⟩ : ∃ f2 : Nat → Int, ∀ j, f2 j = nn + (j : Int) * 7 % 16 := ⟨_, fun _ => rfl⟩
  obtain ⟨f3, hf3⟩ : ∃ f3 : Nat → Int, ∀ j, f3 j = ((j * j % 4 : Nat) : Int) * (fn + 1) * 1099511627776 := ⟨_, fun _ => rfl⟩
  have hr1 : Ri64 (fillL f1 N N) := fun z hz => by obtain ⟨j, _, rfl⟩ := fillL_all hz; rw [hf1]; exact hr
  have hr2 : Ri64 (fillL f2 N N) := fun z hz => by obtain ⟨j, _, rfl⟩ := fillL_all hz; rw [hf2]; omega
  have hr3 : Ri64 (fillL f3 N N) := fun z hz => by
    obtain ⟨j, _, rfl⟩ := fillL_all hz
    rw [hf3]
    rcases sq4 j with h | h <;> rw [h]
    · simp
    · omega
  have l1 := len_same hf1 hr hN8 hN71
  have l2 := len_near hf2 hnr hN8 hN71
  have l3 := len_few (c := (fn + 1) * 1099511627776) (fun j => by rw [hf3, Int.mul_assoc]) hr3 hN8 hN71
  have q1 := Encode_sl hr1 (by rw [fillL_len]; omega)
  have q2 := Encode_sl hr2 (by rw [fillL_len]; omega)
  have q3 := Encode_sl hr3 (by rw [fillL_len]; omega)
  obtain ⟨k, k1, k2, hk, _⟩ := encL_best (l := fillL f2 N N) (by rw [fillL_len]; omega)
  obtain ⟨X, hX, hD⟩ := round_trip hr2 (by rw [fillL_len]; omega) hk
  rw [fillL_len] at hD
  have hX : X = .nr 2 1 (ints .i64 (fillL f2 N N)) := by
    rcases hX with h | ⟨_, h⟩
    · exact h
    · have := fillL_len f2 N N
      rw [h] at this
      simp at this
      omega
  subst hX
  obtain ⟨y, hy, _, _⟩ := take_get (l := fillL f2 N N) (i := 1) (by rw [fillL_len]; omega)
  have hA := awake4
  clear hk k1 k2
  refine dw_in (fn := Try.f4) rfl body4 (by simp) ?_
  simp -implicitDefEqProofs (maxSteps := 4000000) (disch := omega) only [go_sem, go_sem_proc, dr, Nat.min_def, ↓Nat.reduceBEq, ↓Nat.reduceEqDiff, ↓Nat.reduceLT, ↓Nat.reduceLeDiff, ↓Int.reduceEq, ↓Int.reduceLT, ↓Int.reduceLE, ↓reduceIte, hN]
  refine runs_for (fun i : Nat => (⟨[(0, .int .i64 N), (1, .int .i64 near), (2, .int .i64 far), (7, .h 2097600), (8, .h 2097664), (9, .h 2097728), (26, .int .i64 N), (27, .int .i64 i)], [(2097600, some ⟨true, .row 2 1 (ints .i64 (fillL f1 N i))⟩), (2097664, some ⟨true, .row 2 1 (ints .i64 (fillL f2 N i))⟩), (2097728, some ⟨true, .row 2 1 (ints .i64 (fillL f3 N i))⟩)], 1⟩ : St)) N ?_ ?_ ?_
  · have z1 := (fillL_zero f1 N).symm
    have z2 := (fillL_zero f2 N).symm
    have z3 := (fillL_zero f3 N).symm
    simp -implicitDefEqProofs (maxSteps := 4000000) (disch := omega) only [go_sem, go_sem_proc, dr, Nat.min_def, ↓Nat.reduceBEq, ↓Nat.reduceEqDiff, ↓Nat.reduceLT, ↓Nat.reduceLeDiff, ↓Int.reduceEq, ↓Int.reduceLT, ↓Int.reduceLE, ↓reduceIte, z1, z2, z3]
  · intro i hi
    have s1 := fillL_set (f := f1) hi
    have s2 := fillL_set (f := f2) hi
    have s3 := fillL_set (f := f3) hi
    have g1 := fillL_get (f := f1) hi
    have g2 := fillL_get (f := f2) hi
    have g3 := fillL_get (f := f3) hi
    have n1 := fillL_len f1 N i
    have n2 := fillL_len f2 N i
    have n3 := fillL_len f3 N i
    rw [hf1] at s1
    rw [hf2] at s2
    rw [hf3] at s3
    clear q1 q2 q3 hD hy l1 l2 l3 hr1 hr2 hr3
    have hnn' : sand near 1099511627775 = nn := (sand_mask 40 (by decide) near).trans hnn
    obtain ⟨s, hs⟩ : ∃ s : Int, (i : Int) * i = s := ⟨_, rfl⟩
    have hsN : ((i * i : Nat) : Int) = s := by rw [← hs]; push_cast; rfl
    have hsb : i * i ≤ 71 * 71 := Nat.mul_le_mul (by omega) (by omega)
    have h4 := sq4 i
    have e3 : ((((((s + 9223372036854775808) % 18446744073709551616 - 9223372036854775808) % 4 * (fn + 1) + 9223372036854775808) % 18446744073709551616 - 9223372036854775808) * 1099511627776 + 9223372036854775808) % 18446744073709551616 - 9223372036854775808) = ((i * i % 4 : Nat) : Int) * (fn + 1) * 1099511627776 := by
      rw [show ((s + 9223372036854775808) % 18446744073709551616 - 9223372036854775808) % 4 = ((i * i % 4 : Nat) : Int) by omega]
      rcases h4 with h | h <;> rw [h]
      · simp
      · omega
    clear hsN hsb h4
    simp -implicitDefEqProofs (maxSteps := 4000000) (disch := omega) only [go_sem, go_sem_proc, dr, Nat.min_def, ↓Nat.reduceBEq, ↓Nat.reduceEqDiff, ↓Nat.reduceLT, ↓Nat.reduceLeDiff, ↓Int.reduceEq, ↓Int.reduceLT, ↓Int.reduceLE, ↓reduceIte, hnn', hfn, g1, g2, g3, n1, n2, n3, s1, s2, hs]
    rw [e3, s3]
  · have n1 := fillL_len f1 N N
    have n2 := fillL_len f2 N N
    have n3 := fillL_len f3 N N
    generalize encL (fillL f1 N N) = b1 at *
    generalize encL (fillL f2 N N) = b2 at *
    generalize encL (fillL f3 N N) = b3 at *
    clear hr1 hr2 hr3 hf1 hf2 hf3 hX
    simp -implicitDefEqProofs (maxSteps := 4000000) (disch := omega) only [go_sem, go_sem_proc, dr, Nat.min_def, ↓Nat.reduceBEq, ↓Nat.reduceEqDiff, ↓Nat.reduceLT, ↓Nat.reduceLeDiff, ↓Int.reduceEq, ↓Int.reduceLT, ↓Int.reduceLE, ↓reduceIte, q1, q2, q3, hD, hy, hA, n1, n2, n3]
    ((repeat' split) <;> (change _ = true; kernel_rfl))
end Go.Proofs.Ytojaklgmojmjeaa.D
