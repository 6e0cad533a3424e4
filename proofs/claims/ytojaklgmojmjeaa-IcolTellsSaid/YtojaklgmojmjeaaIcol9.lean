/- A column of numbers, decoded; one of its numbers. -/
import Derived.Test.YtojaklgmojmjeaaIcol8
namespace Go.Proofs.Ytojaklgmojmjeaa.D
open Go Go.Den
set_option linter.unusedSimpArgs false
set_option linter.unusedVariables false
set_option maxRecDepth 20000
set_option maxHeartbeats 8000000
theorem unfL_len {n : Nat} {s : Option (List Int)} : (unfL n s).length ≤ n := by
  unfold unfL
  split
  · simp
  · split
    · simp
    · split
      · simp
      · rename_i w r _ _
        rw [List.length_map]
        cases h : unpack w r n with
        | none => simp
        | some q => have := (unpack_r h).1; simp only [Option.getD_some]; omega
theorem getD_r {u : List Int} (h : Ri64 u) (i : Nat) : -9223372036854775808 ≤ u.getD i 0 ∧ u.getD i 0 < 9223372036854775808 := by
  rw [List.getD_eq_getElem?_getD]
  cases hq : u[i]? with
  | none => simp
  | some y => exact h y (List.mem_of_getElem? hq)
theorem undL_good {n : Nat} {s : Option (List Int)} (h : GoodR s) : Ri64 (undL n s) ∧ (undL n s).length ≤ n := by
  unfold undL
  split
  · exact ⟨fun z hz => by simp at hz, by simp⟩
  · obtain ⟨g1, _, _⟩ := rnum_good h
    obtain ⟨_, u2, _⟩ := unpS_good g1 (rnum s).1.toNat
    generalize unpS (rnum s).1.toNat (rnum s).2 = q at *
    cases hp : pickL q.1 ((unpack (width (q.1.length - 1) : Nat) (restL q.2) n).getD []) with
    | none => exact ⟨fun z hz => by simp at hz, by simp⟩
    | some o =>
      have hl := pickL_len hp
      simp only [Option.getD_some]
      refine ⟨?_, ?_⟩
      · by_cases hall : ∀ x ∈ (unpack (width (q.1.length - 1) : Nat) (restL q.2) n).getD [], x < (q.1.length : Int)
        · rw [pickL_ok hall] at hp
          injection hp with hp
          subst hp
          intro z hz
          obtain ⟨i, _, rfl⟩ := List.mem_map.1 hz
          exact getD_r u2 _
        · exfalso
          refine hall fun x hx => Int.lt_of_not_ge fun hle => ?_
          rw [pickL_bad hx hle] at hp
          cases hp
      · rw [hl]
        cases hu : unpack (width (q.1.length - 1) : Nat) (restL q.2) n with
        | none => simp
        | some w => have := (unpack_r hu).1; simp only [Option.getD_some]; omega
theorem rawL_good {k : Int} {zs : List Int} {n : Nat} (h : GoodR (some zs)) : Ri64 (rawL k zs n) ∧ (rawL k zs n).length ≤ n := by
  unfold rawL
  split
  · obtain ⟨_, h2, h3⟩ := unpS_good h (min n (zs.length + 1))
    exact ⟨h2, by omega⟩
  split
  · have := (unrS_good (n := n) (n + 1) h (out := []) (fun z hz => by simp at hz) (by simp)).2
    cases hq : (unrS n (n + 1) [] (some zs)).1 with
    | none => exact ⟨fun z hz => by simp at hz, by simp⟩
    | some l => exact this l hq
  split
  · exact ⟨unfL_good, unfL_len⟩
  split
  · exact undL_good h
  · exact ⟨fun z hz => by simp at hz, by simp⟩
/-- what Decode gives back -/
def DecR (o : Option (List Int)) (Y : PV) : Prop := match o with
  | none => Y = .tup [.nils, .bool false]
  | some l => ∃ X, IsO X l ∧ Y = .tup [X, .bool true]
theorem outR_isO (o : Option (List Int)) : IsO (outR o) (o.getD []) := by
  cases o with
  | none => exact .inr ⟨rfl, rfl⟩
  | some l => exact .inl rfl
/-- what is read of a kind -/
theorem raw_spec {k : Int} {zs : List Int} {n : Nat} (h : GoodR (some zs)) (hn : n ≤ 65535) :
    (k = 1 → ∃ X s', dw E 19 [.pb 16777216 0, .int .i64 (min n (zs.length + 1) : Nat)] [rbx (some zs)] = some (X, [rbx s']) ∧ IsO X (rawL k zs n)) ∧
    (k = 2 → ∃ X s', dw E 20 [.pb 16777216 0, .int .i64 n] [rbx (some zs)] = some (X, [rbx s']) ∧ IsO X (rawL k zs n)) ∧
    (k = 3 → ∃ X s', dw E 21 [.pb 16777216 0, .int .i64 n] [rbx (some zs)] = some (X, [rbx s']) ∧ IsO X (rawL k zs n)) ∧
    (k = 4 → ∃ X s', dw E 22 [.pb 16777216 0, .int .i64 n] [rbx (some zs)] = some (X, [rbx s']) ∧ IsO X (rawL k zs n)) := by
  refine ⟨?_, ?_, ?_, ?_⟩ <;> (intro hk; subst hk)
  · exact ⟨_, _, unplain_spec h (by omega), .inl rfl⟩
  · exact ⟨_, _, unruns_spec h hn, outR_isO _⟩
  · obtain ⟨X, s', h1, h2, _⟩ := unframe_spec h hn
    exact ⟨X, s', h1, h2⟩
  · exact undict_spec h hn
theorem Decode_bad {zs : List Int} {c : Int} (h : c < 0 ∨ 65535 < c ∨ zs = []) (hl : zs.length ≤ 1000000000) : dw E 8 [.sl 1 (ints .u8 zs), .int .i64 c] [] = some (.tup [.nils, .bool false], []) := by
  refine dw_in (fn := Try.f8) rfl body8 (by simp) ?_
  by_cases h1 : c < 0
  · simp -implicitDefEqProofs (maxSteps := 4000000) (disch := omega) only [go_sem, go_sem_proc, dr, Nat.min_def, ↓reduceIte]
  by_cases h2 : 65535 < c
  · simp -implicitDefEqProofs (maxSteps := 4000000) (disch := omega) only [go_sem, go_sem_proc, dr, Nat.min_def, ↓reduceIte]
  have h3 : zs = [] := by rcases h with h | h | h <;> first | omega | exact h
  subst h3
  simp -implicitDefEqProofs (maxSteps := 4000000) (disch := omega) only [go_sem, go_sem_proc, dr, Nat.min_def, ↓reduceIte, List.length_nil]
theorem Decode_nils {c : Int} : dw E 8 [.nils, .int .i64 c] [] = some (.tup [.nils, .bool false], []) := by
  refine dw_in (fn := Try.f8) rfl body8 (by simp) ?_
  by_cases h1 : c < 0
  · simp -implicitDefEqProofs (maxSteps := 4000000) (disch := omega) only [go_sem, go_sem_proc, dr, Nat.min_def, ↓reduceIte]
  by_cases h2 : 65535 < c
  · simp -implicitDefEqProofs (maxSteps := 4000000) (disch := omega) only [go_sem, go_sem_proc, dr, Nat.min_def, ↓reduceIte]
  simp -implicitDefEqProofs (maxSteps := 4000000) (disch := omega) only [go_sem, go_sem_proc, dr, Nat.min_def, ↓reduceIte]
theorem Decode_sl {k : Int} {zs : List Int} {n : Nat} (h8 : R8 (k :: zs)) (hl : zs.length ≤ 100000000) (hn : n ≤ 65535) : ∃ Y, dw E 8 [.sl 1 (ints .u8 (k :: zs)), .int .i64 n] [] = some (Y, []) ∧ DecR (decL (k :: zs) n) Y := by
  have hG : GoodR (some zs) := ⟨fun z hz => h8 z (by simp [hz]), by omega⟩
  have hk := h8 k (by simp)
  have hd : decL (k :: zs) n = if tellL k (rawL k zs n) = some (k :: zs) ∧ (rawL k zs n).length = n then some (rawL k zs n) else none := by
    unfold decL
    simp only [Int.toNat_natCast]
    rw [if_pos (by omega)]
  obtain ⟨q1, q2⟩ := rawL_good (k := k) (n := n) hG
  obtain ⟨c1, c2, c3, c4⟩ := raw_spec (k := k) hG hn
  have hRd := Read_sl (zs := zs) (by omega)
  have hT1 := Tell_spec (k := k) (.inl rfl) q1 (by omega)
  have hT2 : rawL k zs n = [] → dw E 12 [.int .i64 k, .nils] [] = some (tellR k (rawL k zs n), []) := fun e => Tell_spec (k := k) (.inr ⟨rfl, e⟩) q1 (by omega)
  have hE : ∀ t, tellL k (rawL k zs n) = some t → R8 t ∧ t.length ≤ 3000001 := by
    intro t ht
    unfold tellL at ht
    split at ht
    · cases ht
    · split at ht
      · rename_i b hb
        injection ht with ht
        subst ht
        obtain ⟨b1, b2, b3, b4⟩ := body_len q1 (by omega) hb
        refine ⟨fun z hz => ?_, by simp; omega⟩
        rcases List.mem_cons.1 hz with rfl | hz
        · omega
        · exact b2 z hz
      · cases ht
  rw [hd]
  clear hd
  simp only [rbx] at c1 c2 c3 c4
  unfold tellR at hT1 hT2
  by_cases k1 : k = 1
  · obtain ⟨X, s', hC, hX⟩ := c1 k1
    clear c1 c2 c3 c4
    subst k1
    generalize rawL 1 zs n = l at *
    obtain ⟨m, hm, hmi⟩ : ∃ m : Nat, ((min n (zs.length + 1) : Nat) = m) ∧ (if (zs.length : Int) + 1 < (n : Int) then (zs.length : Int) + 1 else (n : Int)) = (m : Int) := ⟨min n (zs.length + 1), rfl, by split <;> omega⟩
    rw [hm] at hC
    rcases hX with rfl | ⟨rfl, hl0⟩
    · have hT := hT1
      clear hT1 hT2
      cases ht : tellL 1 l with
      | none =>
        rw [ht] at hT
        rw [if_neg (by rintro ⟨h, _⟩; cases h)]
        refine ⟨.tup [.nils, .bool false], ?_, rfl⟩
        dsimp only at hT
        clear hE q1 h8
        cases s' <;> simp only [rbx] at hC <;> (refine dw_in (fn := Try.f8) rfl body8 (by simp) ?_) <;> simp -implicitDefEqProofs (maxSteps := 4000000) (disch := omega) only [go_sem, go_sem_proc, dr, Nat.min_def, ↓reduceIte, hRd, hC, hmi, hT, List.length_cons, List.getElem?_cons_zero, List.drop_succ_cons, List.drop_zero]
      | some t =>
        obtain ⟨e1, e2⟩ := hE t ht
        rw [ht] at hT
        dsimp only at hT
        have hEq := Equal_sl (a := t) (b := 1 :: zs) e1 h8
        clear hE q1 h8 ht
        by_cases hlen : l.length = n
        · by_cases htb : t = 1 :: zs
          · rw [if_pos ⟨by rw [htb], hlen⟩]
            refine ⟨.tup [.nr 2 1 (ints .i64 l), .bool true], ?_, _, .inl rfl, rfl⟩
            rw [decide_eq_true htb] at hEq
            have hln : ((l.length : Int) = (n : Int)) = True := eq_true (by first | omega | (simp only [List.length_nil] at hlen; omega))
            clear htb
            cases s' <;> simp only [rbx] at hC <;> (refine dw_in (fn := Try.f8) rfl body8 (by simp) ?_) <;> simp -implicitDefEqProofs (maxSteps := 4000000) (disch := omega) only [go_sem, go_sem_proc, dr, Nat.min_def, ↓reduceIte, hRd, hC, hmi, hT, hEq, hln, List.length_cons, List.getElem?_cons_zero, List.drop_succ_cons, List.drop_zero]
          · rw [if_neg (by rintro ⟨h, _⟩; injection h with h; exact htb h)]
            refine ⟨.tup [.nils, .bool false], ?_, rfl⟩
            rw [decide_eq_false htb] at hEq
            have hln : ((l.length : Int) = (n : Int)) = True := eq_true (by first | omega | (simp only [List.length_nil] at hlen; omega))
            clear htb
            cases s' <;> simp only [rbx] at hC <;> (refine dw_in (fn := Try.f8) rfl body8 (by simp) ?_) <;> simp -implicitDefEqProofs (maxSteps := 4000000) (disch := omega) only [go_sem, go_sem_proc, dr, Nat.min_def, ↓reduceIte, hRd, hC, hmi, hT, hEq, hln, List.length_cons, List.getElem?_cons_zero, List.drop_succ_cons, List.drop_zero]
        · rw [if_neg (by rintro ⟨_, h⟩; exact hlen h)]
          refine ⟨.tup [.nils, .bool false], ?_, rfl⟩
          have hln : ((l.length : Int) = (n : Int)) = False := eq_false (by first | omega | (simp only [List.length_nil] at hlen; omega))
          clear hEq hlen
          cases s' <;> simp only [rbx] at hC <;> (refine dw_in (fn := Try.f8) rfl body8 (by simp) ?_) <;> simp -implicitDefEqProofs (maxSteps := 4000000) (disch := omega) only [go_sem, go_sem_proc, dr, Nat.min_def, ↓reduceIte, hRd, hC, hmi, hT, hln, List.length_cons, List.getElem?_cons_zero, List.drop_succ_cons, List.drop_zero]
    · have hT := hT2 hl0
      clear hT1 hT2
      subst hl0
      cases ht : tellL 1 [] with
      | none =>
        rw [ht] at hT
        rw [if_neg (by rintro ⟨h, _⟩; cases h)]
        refine ⟨.tup [.nils, .bool false], ?_, rfl⟩
        dsimp only at hT
        clear hE q1 h8
        cases s' <;> simp only [rbx] at hC <;> (refine dw_in (fn := Try.f8) rfl body8 (by simp) ?_) <;> simp -implicitDefEqProofs (maxSteps := 4000000) (disch := omega) only [go_sem, go_sem_proc, dr, Nat.min_def, ↓reduceIte, hRd, hC, hmi, hT, List.length_cons, List.getElem?_cons_zero, List.drop_succ_cons, List.drop_zero]
      | some t =>
        obtain ⟨e1, e2⟩ := hE t ht
        rw [ht] at hT
        dsimp only at hT
        have hEq := Equal_sl (a := t) (b := 1 :: zs) e1 h8
        clear hE q1 h8 ht
        by_cases hlen : ([] : List Int).length = n
        · by_cases htb : t = 1 :: zs
          · rw [if_pos ⟨by rw [htb], hlen⟩]
            refine ⟨.tup [.nils, .bool true], ?_, _, .inr ⟨rfl, rfl⟩, rfl⟩
            rw [decide_eq_true htb] at hEq
            have hln : ((0 : Int) = (n : Int)) = True := eq_true (by first | omega | (simp only [List.length_nil] at hlen; omega))
            clear htb
            cases s' <;> simp only [rbx] at hC <;> (refine dw_in (fn := Try.f8) rfl body8 (by simp) ?_) <;> simp -implicitDefEqProofs (maxSteps := 4000000) (disch := omega) only [go_sem, go_sem_proc, dr, Nat.min_def, ↓reduceIte, hRd, hC, hmi, hT, hEq, hln, List.length_cons, List.getElem?_cons_zero, List.drop_succ_cons, List.drop_zero]
          · rw [if_neg (by rintro ⟨h, _⟩; injection h with h; exact htb h)]
            refine ⟨.tup [.nils, .bool false], ?_, rfl⟩
            rw [decide_eq_false htb] at hEq
            have hln : ((0 : Int) = (n : Int)) = True := eq_true (by first | omega | (simp only [List.length_nil] at hlen; omega))
            clear htb
            cases s' <;> simp only [rbx] at hC <;> (refine dw_in (fn := Try.f8) rfl body8 (by simp) ?_) <;> simp -implicitDefEqProofs (maxSteps := 4000000) (disch := omega) only [go_sem, go_sem_proc, dr, Nat.min_def, ↓reduceIte, hRd, hC, hmi, hT, hEq, hln, List.length_cons, List.getElem?_cons_zero, List.drop_succ_cons, List.drop_zero]
        · rw [if_neg (by rintro ⟨_, h⟩; exact hlen h)]
          refine ⟨.tup [.nils, .bool false], ?_, rfl⟩
          have hln : ((0 : Int) = (n : Int)) = False := eq_false (by first | omega | (simp only [List.length_nil] at hlen; omega))
          clear hEq hlen
          cases s' <;> simp only [rbx] at hC <;> (refine dw_in (fn := Try.f8) rfl body8 (by simp) ?_) <;> simp -implicitDefEqProofs (maxSteps := 4000000) (disch := omega) only [go_sem, go_sem_proc, dr, Nat.min_def, ↓reduceIte, hRd, hC, hmi, hT, hln, List.length_cons, List.getElem?_cons_zero, List.drop_succ_cons, List.drop_zero]
  by_cases k2 : k = 2
  · obtain ⟨X, s', hC, hX⟩ := c2 k2
    clear c1 c2 c3 c4
    subst k2
    generalize rawL 2 zs n = l at *
    have hmi : True := trivial
    rcases hX with rfl | ⟨rfl, hl0⟩
    · have hT := hT1
      clear hT1 hT2
      cases ht : tellL 2 l with
      | none =>
        rw [ht] at hT
        rw [if_neg (by rintro ⟨h, _⟩; cases h)]
        refine ⟨.tup [.nils, .bool false], ?_, rfl⟩
        dsimp only at hT
        clear hE q1 h8
        cases s' <;> simp only [rbx] at hC <;> (refine dw_in (fn := Try.f8) rfl body8 (by simp) ?_) <;> simp -implicitDefEqProofs (maxSteps := 4000000) (disch := omega) only [go_sem, go_sem_proc, dr, Nat.min_def, ↓reduceIte, hRd, hC, hmi, hT, List.length_cons, List.getElem?_cons_zero, List.drop_succ_cons, List.drop_zero]
      | some t =>
        obtain ⟨e1, e2⟩ := hE t ht
        rw [ht] at hT
        dsimp only at hT
        have hEq := Equal_sl (a := t) (b := 2 :: zs) e1 h8
        clear hE q1 h8 ht
        by_cases hlen : l.length = n
        · by_cases htb : t = 2 :: zs
          · rw [if_pos ⟨by rw [htb], hlen⟩]
            refine ⟨.tup [.nr 2 1 (ints .i64 l), .bool true], ?_, _, .inl rfl, rfl⟩
            rw [decide_eq_true htb] at hEq
            have hln : ((l.length : Int) = (n : Int)) = True := eq_true (by first | omega | (simp only [List.length_nil] at hlen; omega))
            clear htb
            cases s' <;> simp only [rbx] at hC <;> (refine dw_in (fn := Try.f8) rfl body8 (by simp) ?_) <;> simp -implicitDefEqProofs (maxSteps := 4000000) (disch := omega) only [go_sem, go_sem_proc, dr, Nat.min_def, ↓reduceIte, hRd, hC, hmi, hT, hEq, hln, List.length_cons, List.getElem?_cons_zero, List.drop_succ_cons, List.drop_zero]
          · rw [if_neg (by rintro ⟨h, _⟩; injection h with h; exact htb h)]
            refine ⟨.tup [.nils, .bool false], ?_, rfl⟩
            rw [decide_eq_false htb] at hEq
            have hln : ((l.length : Int) = (n : Int)) = True := eq_true (by first | omega | (simp only [List.length_nil] at hlen; omega))
            clear htb
            cases s' <;> simp only [rbx] at hC <;> (refine dw_in (fn := Try.f8) rfl body8 (by simp) ?_) <;> simp -implicitDefEqProofs (maxSteps := 4000000) (disch := omega) only [go_sem, go_sem_proc, dr, Nat.min_def, ↓reduceIte, hRd, hC, hmi, hT, hEq, hln, List.length_cons, List.getElem?_cons_zero, List.drop_succ_cons, List.drop_zero]
        · rw [if_neg (by rintro ⟨_, h⟩; exact hlen h)]
          refine ⟨.tup [.nils, .bool false], ?_, rfl⟩
          have hln : ((l.length : Int) = (n : Int)) = False := eq_false (by first | omega | (simp only [List.length_nil] at hlen; omega))
          clear hEq hlen
          cases s' <;> simp only [rbx] at hC <;> (refine dw_in (fn := Try.f8) rfl body8 (by simp) ?_) <;> simp -implicitDefEqProofs (maxSteps := 4000000) (disch := omega) only [go_sem, go_sem_proc, dr, Nat.min_def, ↓reduceIte, hRd, hC, hmi, hT, hln, List.length_cons, List.getElem?_cons_zero, List.drop_succ_cons, List.drop_zero]
    · have hT := hT2 hl0
      clear hT1 hT2
      subst hl0
      cases ht : tellL 2 [] with
      | none =>
        rw [ht] at hT
        rw [if_neg (by rintro ⟨h, _⟩; cases h)]
        refine ⟨.tup [.nils, .bool false], ?_, rfl⟩
        dsimp only at hT
        clear hE q1 h8
        cases s' <;> simp only [rbx] at hC <;> (refine dw_in (fn := Try.f8) rfl body8 (by simp) ?_) <;> simp -implicitDefEqProofs (maxSteps := 4000000) (disch := omega) only [go_sem, go_sem_proc, dr, Nat.min_def, ↓reduceIte, hRd, hC, hmi, hT, List.length_cons, List.getElem?_cons_zero, List.drop_succ_cons, List.drop_zero]
      | some t =>
        obtain ⟨e1, e2⟩ := hE t ht
        rw [ht] at hT
        dsimp only at hT
        have hEq := Equal_sl (a := t) (b := 2 :: zs) e1 h8
        clear hE q1 h8 ht
        by_cases hlen : ([] : List Int).length = n
        · by_cases htb : t = 2 :: zs
          · rw [if_pos ⟨by rw [htb], hlen⟩]
            refine ⟨.tup [.nils, .bool true], ?_, _, .inr ⟨rfl, rfl⟩, rfl⟩
            rw [decide_eq_true htb] at hEq
            have hln : ((0 : Int) = (n : Int)) = True := eq_true (by first | omega | (simp only [List.length_nil] at hlen; omega))
            clear htb
            cases s' <;> simp only [rbx] at hC <;> (refine dw_in (fn := Try.f8) rfl body8 (by simp) ?_) <;> simp -implicitDefEqProofs (maxSteps := 4000000) (disch := omega) only [go_sem, go_sem_proc, dr, Nat.min_def, ↓reduceIte, hRd, hC, hmi, hT, hEq, hln, List.length_cons, List.getElem?_cons_zero, List.drop_succ_cons, List.drop_zero]
          · rw [if_neg (by rintro ⟨h, _⟩; injection h with h; exact htb h)]
            refine ⟨.tup [.nils, .bool false], ?_, rfl⟩
            rw [decide_eq_false htb] at hEq
            have hln : ((0 : Int) = (n : Int)) = True := eq_true (by first | omega | (simp only [List.length_nil] at hlen; omega))
            clear htb
            cases s' <;> simp only [rbx] at hC <;> (refine dw_in (fn := Try.f8) rfl body8 (by simp) ?_) <;> simp -implicitDefEqProofs (maxSteps := 4000000) (disch := omega) only [go_sem, go_sem_proc, dr, Nat.min_def, ↓reduceIte, hRd, hC, hmi, hT, hEq, hln, List.length_cons, List.getElem?_cons_zero, List.drop_succ_cons, List.drop_zero]
        · rw [if_neg (by rintro ⟨_, h⟩; exact hlen h)]
          refine ⟨.tup [.nils, .bool false], ?_, rfl⟩
          have hln : ((0 : Int) = (n : Int)) = False := eq_false (by first | omega | (simp only [List.length_nil] at hlen; omega))
          clear hEq hlen
          cases s' <;> simp only [rbx] at hC <;> (refine dw_in (fn := Try.f8) rfl body8 (by simp) ?_) <;> simp -implicitDefEqProofs (maxSteps := 4000000) (disch := omega) only [go_sem, go_sem_proc, dr, Nat.min_def, ↓reduceIte, hRd, hC, hmi, hT, hln, List.length_cons, List.getElem?_cons_zero, List.drop_succ_cons, List.drop_zero]
  by_cases k3 : k = 3
  · obtain ⟨X, s', hC, hX⟩ := c3 k3
    clear c1 c2 c3 c4
    subst k3
    generalize rawL 3 zs n = l at *
    have hmi : True := trivial
    rcases hX with rfl | ⟨rfl, hl0⟩
    · have hT := hT1
      clear hT1 hT2
      cases ht : tellL 3 l with
      | none =>
        rw [ht] at hT
        rw [if_neg (by rintro ⟨h, _⟩; cases h)]
        refine ⟨.tup [.nils, .bool false], ?_, rfl⟩
        dsimp only at hT
        clear hE q1 h8
        cases s' <;> simp only [rbx] at hC <;> (refine dw_in (fn := Try.f8) rfl body8 (by simp) ?_) <;> simp -implicitDefEqProofs (maxSteps := 4000000) (disch := omega) only [go_sem, go_sem_proc, dr, Nat.min_def, ↓reduceIte, hRd, hC, hmi, hT, List.length_cons, List.getElem?_cons_zero, List.drop_succ_cons, List.drop_zero]
      | some t =>
        obtain ⟨e1, e2⟩ := hE t ht
        rw [ht] at hT
        dsimp only at hT
        have hEq := Equal_sl (a := t) (b := 3 :: zs) e1 h8
        clear hE q1 h8 ht
        by_cases hlen : l.length = n
        · by_cases htb : t = 3 :: zs
          · rw [if_pos ⟨by rw [htb], hlen⟩]
            refine ⟨.tup [.nr 2 1 (ints .i64 l), .bool true], ?_, _, .inl rfl, rfl⟩
            rw [decide_eq_true htb] at hEq
            have hln : ((l.length : Int) = (n : Int)) = True := eq_true (by first | omega | (simp only [List.length_nil] at hlen; omega))
            clear htb
            cases s' <;> simp only [rbx] at hC <;> (refine dw_in (fn := Try.f8) rfl body8 (by simp) ?_) <;> simp -implicitDefEqProofs (maxSteps := 4000000) (disch := omega) only [go_sem, go_sem_proc, dr, Nat.min_def, ↓reduceIte, hRd, hC, hmi, hT, hEq, hln, List.length_cons, List.getElem?_cons_zero, List.drop_succ_cons, List.drop_zero]
          · rw [if_neg (by rintro ⟨h, _⟩; injection h with h; exact htb h)]
            refine ⟨.tup [.nils, .bool false], ?_, rfl⟩
            rw [decide_eq_false htb] at hEq
            have hln : ((l.length : Int) = (n : Int)) = True := eq_true (by first | omega | (simp only [List.length_nil] at hlen; omega))
            clear htb
            cases s' <;> simp only [rbx] at hC <;> (refine dw_in (fn := Try.f8) rfl body8 (by simp) ?_) <;> simp -implicitDefEqProofs (maxSteps := 4000000) (disch := omega) only [go_sem, go_sem_proc, dr, Nat.min_def, ↓reduceIte, hRd, hC, hmi, hT, hEq, hln, List.length_cons, List.getElem?_cons_zero, List.drop_succ_cons, List.drop_zero]
        · rw [if_neg (by rintro ⟨_, h⟩; exact hlen h)]
          refine ⟨.tup [.nils, .bool false], ?_, rfl⟩
          have hln : ((l.length : Int) = (n : Int)) = False := eq_false (by first | omega | (simp only [List.length_nil] at hlen; omega))
          clear hEq hlen
          cases s' <;> simp only [rbx] at hC <;> (refine dw_in (fn := Try.f8) rfl body8 (by simp) ?_) <;> simp -implicitDefEqProofs (maxSteps := 4000000) (disch := omega) only [go_sem, go_sem_proc, dr, Nat.min_def, ↓reduceIte, hRd, hC, hmi, hT, hln, List.length_cons, List.getElem?_cons_zero, List.drop_succ_cons, List.drop_zero]
    · have hT := hT2 hl0
      clear hT1 hT2
      subst hl0
      cases ht : tellL 3 [] with
      | none =>
        rw [ht] at hT
        rw [if_neg (by rintro ⟨h, _⟩; cases h)]
        refine ⟨.tup [.nils, .bool false], ?_, rfl⟩
        dsimp only at hT
        clear hE q1 h8
        cases s' <;> simp only [rbx] at hC <;> (refine dw_in (fn := Try.f8) rfl body8 (by simp) ?_) <;> simp -implicitDefEqProofs (maxSteps := 4000000) (disch := omega) only [go_sem, go_sem_proc, dr, Nat.min_def, ↓reduceIte, hRd, hC, hmi, hT, List.length_cons, List.getElem?_cons_zero, List.drop_succ_cons, List.drop_zero]
      | some t =>
        obtain ⟨e1, e2⟩ := hE t ht
        rw [ht] at hT
        dsimp only at hT
        have hEq := Equal_sl (a := t) (b := 3 :: zs) e1 h8
        clear hE q1 h8 ht
        by_cases hlen : ([] : List Int).length = n
        · by_cases htb : t = 3 :: zs
          · rw [if_pos ⟨by rw [htb], hlen⟩]
            refine ⟨.tup [.nils, .bool true], ?_, _, .inr ⟨rfl, rfl⟩, rfl⟩
            rw [decide_eq_true htb] at hEq
            have hln : ((0 : Int) = (n : Int)) = True := eq_true (by first | omega | (simp only [List.length_nil] at hlen; omega))
            clear htb
            cases s' <;> simp only [rbx] at hC <;> (refine dw_in (fn := Try.f8) rfl body8 (by simp) ?_) <;> simp -implicitDefEqProofs (maxSteps := 4000000) (disch := omega) only [go_sem, go_sem_proc, dr, Nat.min_def, ↓reduceIte, hRd, hC, hmi, hT, hEq, hln, List.length_cons, List.getElem?_cons_zero, List.drop_succ_cons, List.drop_zero]
          · rw [if_neg (by rintro ⟨h, _⟩; injection h with h; exact htb h)]
            refine ⟨.tup [.nils, .bool false], ?_, rfl⟩
            rw [decide_eq_false htb] at hEq
            have hln : ((0 : Int) = (n : Int)) = True := eq_true (by first | omega | (simp only [List.length_nil] at hlen; omega))
            clear htb
            cases s' <;> simp only [rbx] at hC <;> (refine dw_in (fn := Try.f8) rfl body8 (by simp) ?_) <;> simp -implicitDefEqProofs (maxSteps := 4000000) (disch := omega) only [go_sem, go_sem_proc, dr, Nat.min_def, ↓reduceIte, hRd, hC, hmi, hT, hEq, hln, List.length_cons, List.getElem?_cons_zero, List.drop_succ_cons, List.drop_zero]
        · rw [if_neg (by rintro ⟨_, h⟩; exact hlen h)]
          refine ⟨.tup [.nils, .bool false], ?_, rfl⟩
          have hln : ((0 : Int) = (n : Int)) = False := eq_false (by first | omega | (simp only [List.length_nil] at hlen; omega))
          clear hEq hlen
          cases s' <;> simp only [rbx] at hC <;> (refine dw_in (fn := Try.f8) rfl body8 (by simp) ?_) <;> simp -implicitDefEqProofs (maxSteps := 4000000) (disch := omega) only [go_sem, go_sem_proc, dr, Nat.min_def, ↓reduceIte, hRd, hC, hmi, hT, hln, List.length_cons, List.getElem?_cons_zero, List.drop_succ_cons, List.drop_zero]
  by_cases k4 : k = 4
  · obtain ⟨X, s', hC, hX⟩ := c4 k4
    clear c1 c2 c3 c4
    subst k4
    generalize rawL 4 zs n = l at *
    have hmi : True := trivial
    rcases hX with rfl | ⟨rfl, hl0⟩
    · have hT := hT1
      clear hT1 hT2
      cases ht : tellL 4 l with
      | none =>
        rw [ht] at hT
        rw [if_neg (by rintro ⟨h, _⟩; cases h)]
        refine ⟨.tup [.nils, .bool false], ?_, rfl⟩
        dsimp only at hT
        clear hE q1 h8
        cases s' <;> simp only [rbx] at hC <;> (refine dw_in (fn := Try.f8) rfl body8 (by simp) ?_) <;> simp -implicitDefEqProofs (maxSteps := 4000000) (disch := omega) only [go_sem, go_sem_proc, dr, Nat.min_def, ↓reduceIte, hRd, hC, hmi, hT, List.length_cons, List.getElem?_cons_zero, List.drop_succ_cons, List.drop_zero]
      | some t =>
        obtain ⟨e1, e2⟩ := hE t ht
        rw [ht] at hT
        dsimp only at hT
        have hEq := Equal_sl (a := t) (b := 4 :: zs) e1 h8
        clear hE q1 h8 ht
        by_cases hlen : l.length = n
        · by_cases htb : t = 4 :: zs
          · rw [if_pos ⟨by rw [htb], hlen⟩]
            refine ⟨.tup [.nr 2 1 (ints .i64 l), .bool true], ?_, _, .inl rfl, rfl⟩
            rw [decide_eq_true htb] at hEq
            have hln : ((l.length : Int) = (n : Int)) = True := eq_true (by first | omega | (simp only [List.length_nil] at hlen; omega))
            clear htb
            cases s' <;> simp only [rbx] at hC <;> (refine dw_in (fn := Try.f8) rfl body8 (by simp) ?_) <;> simp -implicitDefEqProofs (maxSteps := 4000000) (disch := omega) only [go_sem, go_sem_proc, dr, Nat.min_def, ↓reduceIte, hRd, hC, hmi, hT, hEq, hln, List.length_cons, List.getElem?_cons_zero, List.drop_succ_cons, List.drop_zero]
          · rw [if_neg (by rintro ⟨h, _⟩; injection h with h; exact htb h)]
            refine ⟨.tup [.nils, .bool false], ?_, rfl⟩
            rw [decide_eq_false htb] at hEq
            have hln : ((l.length : Int) = (n : Int)) = True := eq_true (by first | omega | (simp only [List.length_nil] at hlen; omega))
            clear htb
            cases s' <;> simp only [rbx] at hC <;> (refine dw_in (fn := Try.f8) rfl body8 (by simp) ?_) <;> simp -implicitDefEqProofs (maxSteps := 4000000) (disch := omega) only [go_sem, go_sem_proc, dr, Nat.min_def, ↓reduceIte, hRd, hC, hmi, hT, hEq, hln, List.length_cons, List.getElem?_cons_zero, List.drop_succ_cons, List.drop_zero]
        · rw [if_neg (by rintro ⟨_, h⟩; exact hlen h)]
          refine ⟨.tup [.nils, .bool false], ?_, rfl⟩
          have hln : ((l.length : Int) = (n : Int)) = False := eq_false (by first | omega | (simp only [List.length_nil] at hlen; omega))
          clear hEq hlen
          cases s' <;> simp only [rbx] at hC <;> (refine dw_in (fn := Try.f8) rfl body8 (by simp) ?_) <;> simp -implicitDefEqProofs (maxSteps := 4000000) (disch := omega) only [go_sem, go_sem_proc, dr, Nat.min_def, ↓reduceIte, hRd, hC, hmi, hT, hln, List.length_cons, List.getElem?_cons_zero, List.drop_succ_cons, List.drop_zero]
    · have hT := hT2 hl0
      clear hT1 hT2
      subst hl0
      cases ht : tellL 4 [] with
      | none =>
        rw [ht] at hT
        rw [if_neg (by rintro ⟨h, _⟩; cases h)]
        refine ⟨.tup [.nils, .bool false], ?_, rfl⟩
        dsimp only at hT
        clear hE q1 h8
        cases s' <;> simp only [rbx] at hC <;> (refine dw_in (fn := Try.f8) rfl body8 (by simp) ?_) <;> simp -implicitDefEqProofs (maxSteps := 4000000) (disch := omega) only [go_sem, go_sem_proc, dr, Nat.min_def, ↓reduceIte, hRd, hC, hmi, hT, List.length_cons, List.getElem?_cons_zero, List.drop_succ_cons, List.drop_zero]
      | some t =>
        obtain ⟨e1, e2⟩ := hE t ht
        rw [ht] at hT
        dsimp only at hT
        have hEq := Equal_sl (a := t) (b := 4 :: zs) e1 h8
        clear hE q1 h8 ht
        by_cases hlen : ([] : List Int).length = n
        · by_cases htb : t = 4 :: zs
          · rw [if_pos ⟨by rw [htb], hlen⟩]
            refine ⟨.tup [.nils, .bool true], ?_, _, .inr ⟨rfl, rfl⟩, rfl⟩
            rw [decide_eq_true htb] at hEq
            have hln : ((0 : Int) = (n : Int)) = True := eq_true (by first | omega | (simp only [List.length_nil] at hlen; omega))
            clear htb
            cases s' <;> simp only [rbx] at hC <;> (refine dw_in (fn := Try.f8) rfl body8 (by simp) ?_) <;> simp -implicitDefEqProofs (maxSteps := 4000000) (disch := omega) only [go_sem, go_sem_proc, dr, Nat.min_def, ↓reduceIte, hRd, hC, hmi, hT, hEq, hln, List.length_cons, List.getElem?_cons_zero, List.drop_succ_cons, List.drop_zero]
          · rw [if_neg (by rintro ⟨h, _⟩; injection h with h; exact htb h)]
            refine ⟨.tup [.nils, .bool false], ?_, rfl⟩
            rw [decide_eq_false htb] at hEq
            have hln : ((0 : Int) = (n : Int)) = True := eq_true (by first | omega | (simp only [List.length_nil] at hlen; omega))
            clear htb
            cases s' <;> simp only [rbx] at hC <;> (refine dw_in (fn := Try.f8) rfl body8 (by simp) ?_) <;> simp -implicitDefEqProofs (maxSteps := 4000000) (disch := omega) only [go_sem, go_sem_proc, dr, Nat.min_def, ↓reduceIte, hRd, hC, hmi, hT, hEq, hln, List.length_cons, List.getElem?_cons_zero, List.drop_succ_cons, List.drop_zero]
        · rw [if_neg (by rintro ⟨_, h⟩; exact hlen h)]
          refine ⟨.tup [.nils, .bool false], ?_, rfl⟩
          have hln : ((0 : Int) = (n : Int)) = False := eq_false (by first | omega | (simp only [List.length_nil] at hlen; omega))
          clear hEq hlen
          cases s' <;> simp only [rbx] at hC <;> (refine dw_in (fn := Try.f8) rfl body8 (by simp) ?_) <;> simp -implicitDefEqProofs (maxSteps := 4000000) (disch := omega) only [go_sem, go_sem_proc, dr, Nat.min_def, ↓reduceIte, hRd, hC, hmi, hT, hln, List.length_cons, List.getElem?_cons_zero, List.drop_succ_cons, List.drop_zero]
  have e0 : rawL k zs n = [] := by simp [rawL, k1, k2, k3, k4]
  have hT := hT2 e0
  rw [e0] at hT ⊢
  have ht : tellL k [] = none := by simp [tellL, bodyL, k1, k2, k3, k4]
  rw [ht] at hT
  rw [ht, if_neg (by rintro ⟨h, _⟩; cases h)]
  refine ⟨.tup [.nils, .bool false], ?_, rfl⟩
  dsimp only at hT
  clear hE q1 h8 c1 c2 c3 c4 hT1 hT2 ht e0
  refine dw_in (fn := Try.f8) rfl body8 (by simp) ?_
  simp -implicitDefEqProofs (maxSteps := 4000000) (disch := omega) only [go_sem, go_sem_proc, dr, Nat.min_def, ↓reduceIte, hRd, hT, eq_false k1, eq_false k2, eq_false k3, eq_false k4, List.length_cons, List.getElem?_cons_zero, List.drop_succ_cons, List.drop_zero]
end Go.Proofs.Ytojaklgmojmjeaa.D
