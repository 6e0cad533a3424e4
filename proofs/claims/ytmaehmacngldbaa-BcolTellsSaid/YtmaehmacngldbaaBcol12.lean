/- A column of bytes, decoded. -/
import Derived.Test.YtmaehmacngldbaaBcol11
import Derived.Test.YtmaehmacngldbaaDenR3
namespace Go.Proofs.Ytmaehmacngldbaa.D
open Go Go.Den
set_option linter.unusedSimpArgs false
set_option linter.unusedVariables false
set_option maxRecDepth 20000
set_option maxHeartbeats 8000000
theorem B64_nil : B64 [] := fun o ho => by simp at ho
theorem B64_nz {l : List RB'} (h : B64 l) : B64 (l.map nz) := fun o ho => by
  obtain ⟨x, hx, rfl⟩ := List.mem_map.1 ho
  exact h x hx
theorem toldL_R8 {L : List RB'} (h : B64 L) : R8 (toldL false L) := by
  induction L with
  | nil => intro z hz; simp [toldL] at hz
  | cons x r ih =>
    have hx := h x (by simp)
    rw [toldL_cons]
    refine R8.append ?_ (ih (h.sub fun z hz => by simp [hz]))
    simp only [toldO, Bool.false_eq_true, if_false]
    exact (num_r8 (by omega) (by omega)).append hx.1
theorem refBody_R8 {k : Int} {L : List RB'} {b : List Int} (h : B64 L) (hl : L.length ≤ 65535) (hb : refBody false k L = some b) : R8 b := by
  unfold refBody at hb
  split at hb
  · injection hb with hb; subst hb
    exact toldL_R8 h
  split at hb
  · injection hb with hb; subst hb
    exact (rnsB_len L.length (Nat.le_refl _) (by omega) h).2
  split at hb
  · simp at hb
  split at hb
  · injection hb with hb; subst hb
    have h1 := unlikeO_len L
    unfold dictO
    exact ((num_r8 (by omega) (by omega)).append (toldL_R8 (h.sub fun x hx => unlikeO_sub hx))).append (packL_R8 _ _)
  · cases hb
theorem pickO_len {u : List RB'} {l : List Int} {o : List RB'} (h : pickO u l = some o) : o.length = l.length := by
  induction l generalizing o with
  | nil => injection h with h; subst h; rfl
  | cons i r ih =>
    rw [pickO] at h
    split at h
    · cases h
    · cases hp : pickO u r with
      | none => rw [hp] at h; cases h
      | some q =>
        rw [hp] at h
        injection h with h
        subst h
        simp [ih hp]
theorem getD_B64 {u : List RB'} (h : B64 u) (i : Nat) : R8 (bz (u.getD i none)) ∧ (bz (u.getD i none)).length ≤ 64 := by
  rw [List.getD_eq_getElem?_getD]
  cases hq : u[i]? with
  | none => exact ⟨fun z hz => by simp [bz] at hz, by decide⟩
  | some y => exact h y (List.mem_of_getElem? hq)
theorem undB_good {n : Nat} {s : Option (List Int)} (h : GoodR s) : B64 (undB n s) ∧ (undB n s).length ≤ n := by
  unfold undB
  split
  · exact ⟨B64_nil, by simp⟩
  · obtain ⟨g1, _, _⟩ := rnumB_good h
    obtain ⟨_, u2, _⟩ := unpB_good g1 (rnumB s).1.toNat
    generalize unpB (rnumB s).1.toNat (rnumB s).2 = q at *
    cases hp : pickO q.1 ((unpack (width (q.1.length - 1) : Nat) (restB q.2) n).getD []) with
    | none => exact ⟨B64_nil, by simp⟩
    | some o =>
      have hl := pickO_len hp
      simp only [Option.getD_some]
      refine ⟨?_, ?_⟩
      · by_cases hall : ∀ x ∈ (unpack (width (q.1.length - 1) : Nat) (restB q.2) n).getD [], x < (q.1.length : Int)
        · rw [pickB_ok hall] at hp
          injection hp with hp
          subst hp
          intro z hz
          obtain ⟨i, _, rfl⟩ := List.mem_map.1 hz
          exact getD_B64 u2 _
        · exfalso
          refine hall fun x hx => Int.lt_of_not_ge fun hle => ?_
          rw [pickB_bad hx hle] at hp
          cases hp
      · rw [hl]
        cases hu : unpack (width (q.1.length - 1) : Nat) (restB q.2) n with
        | none => simp
        | some w => have := (unpack_r hu).1; simp only [Option.getD_some]; omega
theorem rawB_good {k : Int} {zs : List Int} {n : Nat} (h : GoodR (some zs)) : B64 (rawB k zs n) ∧ (rawB k zs n).length ≤ n := by
  unfold rawB
  split
  · obtain ⟨_, h2, h3⟩ := unpB_good h (min n (zs.length + 1))
    exact ⟨h2, by omega⟩
  split
  · have := (unrB_good (n := n) (n + 1) h (out := []) B64_nil (by simp)).2
    cases hq : (unrB n (n + 1) [] (some zs)).1 with
    | none => exact ⟨B64_nil, by simp⟩
    | some l => exact this l hq
  split
  · exact undB_good h
  · exact ⟨B64_nil, by simp⟩
/-- what Decode gives back -/
def DecB (o : Option (List RB')) (Y : PV) : Prop := match o with
  | none => Y = .tup [.nils, .bool false]
  | some l => ∃ X l', IsOB X l' ∧ l'.map bz = l.map bz ∧ Y = .tup [X, .bool true]
theorem outRB_isO (o : Option (List RB')) : IsOB (outRB o) (o.getD []) := by
  cases o with
  | none => exact .inr ⟨rfl, rfl⟩
  | some l => exact .inl rfl
/-- what is read of a kind -/
theorem raw_spec {k : Int} {zs : List Int} {n : Nat} (h : GoodR (some zs)) (hn : n ≤ 65535) :
    (k = 1 → ∃ X s' l', dw E 20 [.pb 16777216 0, .int .i64 (min n (zs.length + 1) : Nat)] [rbx (some zs)] = some (X, [rbx s']) ∧ IsOB X l' ∧ l'.map bz = (rawB k zs n).map bz ∧ B64 l') ∧
    (k = 2 → ∃ X s' l', dw E 21 [.pb 16777216 0, .int .i64 n] [rbx (some zs)] = some (X, [rbx s']) ∧ IsOB X l' ∧ l'.map bz = (rawB k zs n).map bz ∧ B64 l') ∧
    (k = 4 → ∃ X s' l', dw E 22 [.pb 16777216 0, .int .i64 n] [rbx (some zs)] = some (X, [rbx s']) ∧ IsOB X l' ∧ l'.map bz = (rawB k zs n).map bz ∧ B64 l') := by
  have hG := (rawB_good (k := k) (n := n) h).1
  refine ⟨?_, ?_, ?_⟩ <;> (intro hk; subst hk)
  · exact ⟨_, _, _, unplain_spec h (by omega), .inl rfl, rfl, hG⟩
  · exact ⟨_, _, _, unruns_spec h hn, outRB_isO _, rfl, hG⟩
  · obtain ⟨X, s', h1, h2⟩ := undict_spec h hn
    exact ⟨X, s', _, h1, h2, nz_bz _, B64_nz hG⟩
theorem Decode_bad {zs : List Int} {c : Int} (h : c < 0 ∨ 65535 < c ∨ zs = []) (hl : zs.length ≤ 1000000000) : dw E 9 [.sl 1 (ints .u8 zs), .int .i64 c] [] = some (.tup [.nils, .bool false], []) := by
  refine dw_in (fn := Try.f9) rfl body9 (by simp) ?_
  by_cases h1 : c < 0
  · simp -implicitDefEqProofs (maxSteps := 4000000) (disch := omega) only [go_sem, go_sem_proc, dr, Nat.min_def, ↓reduceIte]
  by_cases h2 : 65535 < c
  · simp -implicitDefEqProofs (maxSteps := 4000000) (disch := omega) only [go_sem, go_sem_proc, dr, Nat.min_def, ↓reduceIte]
  have h3 : zs = [] := by rcases h with h | h | h <;> first | omega | exact h
  subst h3
  simp -implicitDefEqProofs (maxSteps := 4000000) (disch := omega) only [go_sem, go_sem_proc, dr, Nat.min_def, ↓reduceIte, List.length_nil]
theorem Decode_nils {c : Int} : dw E 9 [.nils, .int .i64 c] [] = some (.tup [.nils, .bool false], []) := by
  refine dw_in (fn := Try.f9) rfl body9 (by simp) ?_
  by_cases h1 : c < 0
  · simp -implicitDefEqProofs (maxSteps := 4000000) (disch := omega) only [go_sem, go_sem_proc, dr, Nat.min_def, ↓reduceIte]
  by_cases h2 : 65535 < c
  · simp -implicitDefEqProofs (maxSteps := 4000000) (disch := omega) only [go_sem, go_sem_proc, dr, Nat.min_def, ↓reduceIte]
  simp -implicitDefEqProofs (maxSteps := 4000000) (disch := omega) only [go_sem, go_sem_proc, dr, Nat.min_def, ↓reduceIte]
theorem Decode_sl {k : Int} {zs : List Int} {n : Nat} (h8 : R8 (k :: zs)) (hl : zs.length ≤ 100000000) (hn : n ≤ 65535) : ∃ Y, dw E 9 [.sl 1 (ints .u8 (k :: zs)), .int .i64 n] [] = some (Y, []) ∧ DecB (decB (k :: zs) n) Y := by
  have hG : GoodR (some zs) := ⟨fun z hz => h8 z (by simp [hz]), by omega⟩
  have hk := h8 k (by simp)
  have hd : decB (k :: zs) n = if shortO (rawB k zs n) = true ∧ refTell false k (rawB k zs n) = some (k :: zs) ∧ (rawB k zs n).length = n then some (rawB k zs n) else none := by
    unfold decB
    simp only [Int.toNat_natCast]
    rw [if_pos (by omega)]
  obtain ⟨q1, q2⟩ := rawB_good (k := k) (n := n) hG
  obtain ⟨c1, c2, c4⟩ := raw_spec (k := k) hG hn
  have hRd := Read_sl (zs := zs) (by omega)
  rw [hd]
  clear hd
  have hsh : shortO (rawB k zs n) = true := shortO_iff.2 fun o ho => (q1 o ho).2
  simp only [hsh, true_and]
  simp only [rbx] at c1 c2 c4
  have hE : ∀ t, refTell false k (rawB k zs n) = some t → R8 t ∧ t.length ≤ 9000001 := by
    intro t ht
    unfold refTell at ht
    split at ht
    · cases ht
    · rw [Option.map_eq_some_iff] at ht
      obtain ⟨b, hb, rfl⟩ := ht
      have hb1 := (refBody_len q1 (by omega) hb).1
      have hb2 := refBody_R8 q1 (by omega) hb
      refine ⟨fun z hz => ?_, by simp; omega⟩
      rcases List.mem_cons.1 hz with rfl | hz
      · omega
      · exact hb2 z hz
  by_cases k1 : k = 1
  · obtain ⟨X, s', l', hC, hX, he, hB⟩ := c1 k1
    clear c1 c2 c4
    subst k1
    rw [← refTell_of he, ← len_of he]
    rw [← refTell_of he] at hE
    rw [← len_of he] at q2
    clear hsh q1
    generalize rawB 1 zs n = raw at *
    obtain ⟨m, hm, hmi⟩ : ∃ m : Nat, ((min n (zs.length + 1) : Nat) = m) ∧ (if (zs.length : Int) + 1 < (n : Int) then (zs.length : Int) + 1 else (n : Int)) = (m : Int) := ⟨min n (zs.length + 1), rfl, by split <;> omega⟩
    rw [hm] at hC
    have hT := Tell_spec (k := 1) (X := .sl 1 (l'.map brow)) (.inl rfl) (L := l') (fun o ho => ⟨(hB o ho).1, by have := (hB o ho).2; omega⟩) (by omega)
    have hT2 : l' = [] → dw E 15 [.int .i64 1, .nils] [] = some (tellRB 1 l', []) := fun e => Tell_spec (k := 1) (X := .nils) (.inr ⟨rfl, e⟩) (fun o ho => ⟨(hB o ho).1, by have := (hB o ho).2; omega⟩) (by omega)
    unfold tellRB at hT hT2
    rw [if_pos (shortO_iff.2 fun o ho => (hB o ho).2)] at hT hT2
    clear hB hG hk
    rcases hX with rfl | ⟨rfl, hl0⟩
    · clear hT2
      cases ht : refTell false 1 l' with
      | none =>
        rw [ht] at hT
        rw [if_neg (by rintro ⟨h, _⟩; cases h)]
        refine ⟨.tup [.nils, .bool false], ?_, rfl⟩
        dsimp only at hT
        clear hE h8
        cases s' <;> simp only [rbx] at hC <;> (refine dw_in (fn := Try.f9) rfl body9 (by simp) ?_) <;> simp -implicitDefEqProofs (maxSteps := 4000000) (disch := omega) only [go_sem, go_sem_proc, dr, Nat.min_def, ↓reduceIte, hRd, hC, hmi, hT, List.length_map, List.length_cons, List.getElem?_cons_zero, List.drop_succ_cons, List.drop_zero]
      | some t =>
        obtain ⟨e1, e2⟩ := hE t ht
        rw [ht] at hT
        dsimp only at hT
        have hEq := EqB (a := some t) (b := some (1 :: zs)) e1 h8
        change dw E 23 [.sl 1 (ints .u8 t), .sl 1 (ints .u8 (1 :: zs))] [] = some (.bool (decide (t = 1 :: zs)), []) at hEq
        clear hE h8 ht
        by_cases hlen : l'.length = n
        · by_cases htb : t = 1 :: zs
          · rw [if_pos ⟨by rw [htb], hlen⟩]
            refine ⟨.tup [.nr 28 1 (l'.map brow), .bool true], ?_, _, l', .inl rfl, he, rfl⟩
            rw [decide_eq_true htb] at hEq
            have hln : ((l'.length : Int) = (n : Int)) = True := eq_true (by first | omega | (simp only [List.length_nil] at hlen; omega))
            clear htb he
            cases s' <;> simp only [rbx] at hC <;> (refine dw_in (fn := Try.f9) rfl body9 (by simp) ?_) <;> simp -implicitDefEqProofs (maxSteps := 4000000) (disch := omega) only [go_sem, go_sem_proc, dr, Nat.min_def, ↓reduceIte, hRd, hC, hmi, hT, hEq, hln, List.length_map, List.length_cons, List.getElem?_cons_zero, List.drop_succ_cons, List.drop_zero]
          · rw [if_neg (by rintro ⟨h, _⟩; injection h with h; exact htb h)]
            refine ⟨.tup [.nils, .bool false], ?_, rfl⟩
            rw [decide_eq_false htb] at hEq
            have hln : ((l'.length : Int) = (n : Int)) = True := eq_true (by first | omega | (simp only [List.length_nil] at hlen; omega))
            clear htb he
            cases s' <;> simp only [rbx] at hC <;> (refine dw_in (fn := Try.f9) rfl body9 (by simp) ?_) <;> simp -implicitDefEqProofs (maxSteps := 4000000) (disch := omega) only [go_sem, go_sem_proc, dr, Nat.min_def, ↓reduceIte, hRd, hC, hmi, hT, hEq, hln, List.length_map, List.length_cons, List.getElem?_cons_zero, List.drop_succ_cons, List.drop_zero]
        · rw [if_neg (by rintro ⟨_, h⟩; exact hlen h)]
          refine ⟨.tup [.nils, .bool false], ?_, rfl⟩
          have hln : ((l'.length : Int) = (n : Int)) = False := eq_false (by first | omega | (simp only [List.length_nil] at hlen; omega))
          clear hEq hlen he
          cases s' <;> simp only [rbx] at hC <;> (refine dw_in (fn := Try.f9) rfl body9 (by simp) ?_) <;> simp -implicitDefEqProofs (maxSteps := 4000000) (disch := omega) only [go_sem, go_sem_proc, dr, Nat.min_def, ↓reduceIte, hRd, hC, hmi, hT, hln, List.length_map, List.length_cons, List.getElem?_cons_zero, List.drop_succ_cons, List.drop_zero]
    · replace hT := hT2 hl0
      clear hT2
      subst hl0
      cases ht : refTell false 1 [] with
      | none =>
        rw [ht] at hT
        rw [if_neg (by rintro ⟨h, _⟩; cases h)]
        refine ⟨.tup [.nils, .bool false], ?_, rfl⟩
        dsimp only at hT
        clear hE h8
        cases s' <;> simp only [rbx] at hC <;> (refine dw_in (fn := Try.f9) rfl body9 (by simp) ?_) <;> simp -implicitDefEqProofs (maxSteps := 4000000) (disch := omega) only [go_sem, go_sem_proc, dr, Nat.min_def, ↓reduceIte, hRd, hC, hmi, hT, List.length_map, List.length_cons, List.getElem?_cons_zero, List.drop_succ_cons, List.drop_zero]
      | some t =>
        obtain ⟨e1, e2⟩ := hE t ht
        rw [ht] at hT
        dsimp only at hT
        have hEq := EqB (a := some t) (b := some (1 :: zs)) e1 h8
        change dw E 23 [.sl 1 (ints .u8 t), .sl 1 (ints .u8 (1 :: zs))] [] = some (.bool (decide (t = 1 :: zs)), []) at hEq
        clear hE h8 ht
        by_cases hlen : ([] : List RB').length = n
        · by_cases htb : t = 1 :: zs
          · rw [if_pos ⟨by rw [htb], hlen⟩]
            refine ⟨.tup [.nils, .bool true], ?_, _, [], .inr ⟨rfl, rfl⟩, he, rfl⟩
            rw [decide_eq_true htb] at hEq
            have hln : ((0 : Int) = (n : Int)) = True := eq_true (by first | omega | (simp only [List.length_nil] at hlen; omega))
            clear htb he
            cases s' <;> simp only [rbx] at hC <;> (refine dw_in (fn := Try.f9) rfl body9 (by simp) ?_) <;> simp -implicitDefEqProofs (maxSteps := 4000000) (disch := omega) only [go_sem, go_sem_proc, dr, Nat.min_def, ↓reduceIte, hRd, hC, hmi, hT, hEq, hln, List.length_map, List.length_cons, List.getElem?_cons_zero, List.drop_succ_cons, List.drop_zero]
          · rw [if_neg (by rintro ⟨h, _⟩; injection h with h; exact htb h)]
            refine ⟨.tup [.nils, .bool false], ?_, rfl⟩
            rw [decide_eq_false htb] at hEq
            have hln : ((0 : Int) = (n : Int)) = True := eq_true (by first | omega | (simp only [List.length_nil] at hlen; omega))
            clear htb he
            cases s' <;> simp only [rbx] at hC <;> (refine dw_in (fn := Try.f9) rfl body9 (by simp) ?_) <;> simp -implicitDefEqProofs (maxSteps := 4000000) (disch := omega) only [go_sem, go_sem_proc, dr, Nat.min_def, ↓reduceIte, hRd, hC, hmi, hT, hEq, hln, List.length_map, List.length_cons, List.getElem?_cons_zero, List.drop_succ_cons, List.drop_zero]
        · rw [if_neg (by rintro ⟨_, h⟩; exact hlen h)]
          refine ⟨.tup [.nils, .bool false], ?_, rfl⟩
          have hln : ((0 : Int) = (n : Int)) = False := eq_false (by first | omega | (simp only [List.length_nil] at hlen; omega))
          clear hEq hlen he
          cases s' <;> simp only [rbx] at hC <;> (refine dw_in (fn := Try.f9) rfl body9 (by simp) ?_) <;> simp -implicitDefEqProofs (maxSteps := 4000000) (disch := omega) only [go_sem, go_sem_proc, dr, Nat.min_def, ↓reduceIte, hRd, hC, hmi, hT, hln, List.length_map, List.length_cons, List.getElem?_cons_zero, List.drop_succ_cons, List.drop_zero]
  by_cases k2 : k = 2
  · obtain ⟨X, s', l', hC, hX, he, hB⟩ := c2 k2
    clear c1 c2 c4
    subst k2
    rw [← refTell_of he, ← len_of he]
    rw [← refTell_of he] at hE
    rw [← len_of he] at q2
    clear hsh q1
    generalize rawB 2 zs n = raw at *
    have hmi : True := trivial
    have hT := Tell_spec (k := 2) (X := .sl 1 (l'.map brow)) (.inl rfl) (L := l') (fun o ho => ⟨(hB o ho).1, by have := (hB o ho).2; omega⟩) (by omega)
    have hT2 : l' = [] → dw E 15 [.int .i64 2, .nils] [] = some (tellRB 2 l', []) := fun e => Tell_spec (k := 2) (X := .nils) (.inr ⟨rfl, e⟩) (fun o ho => ⟨(hB o ho).1, by have := (hB o ho).2; omega⟩) (by omega)
    unfold tellRB at hT hT2
    rw [if_pos (shortO_iff.2 fun o ho => (hB o ho).2)] at hT hT2
    clear hB hG hk
    rcases hX with rfl | ⟨rfl, hl0⟩
    · clear hT2
      cases ht : refTell false 2 l' with
      | none =>
        rw [ht] at hT
        rw [if_neg (by rintro ⟨h, _⟩; cases h)]
        refine ⟨.tup [.nils, .bool false], ?_, rfl⟩
        dsimp only at hT
        clear hE h8
        cases s' <;> simp only [rbx] at hC <;> (refine dw_in (fn := Try.f9) rfl body9 (by simp) ?_) <;> simp -implicitDefEqProofs (maxSteps := 4000000) (disch := omega) only [go_sem, go_sem_proc, dr, Nat.min_def, ↓reduceIte, hRd, hC, hmi, hT, List.length_map, List.length_cons, List.getElem?_cons_zero, List.drop_succ_cons, List.drop_zero]
      | some t =>
        obtain ⟨e1, e2⟩ := hE t ht
        rw [ht] at hT
        dsimp only at hT
        have hEq := EqB (a := some t) (b := some (2 :: zs)) e1 h8
        change dw E 23 [.sl 1 (ints .u8 t), .sl 1 (ints .u8 (2 :: zs))] [] = some (.bool (decide (t = 2 :: zs)), []) at hEq
        clear hE h8 ht
        by_cases hlen : l'.length = n
        · by_cases htb : t = 2 :: zs
          · rw [if_pos ⟨by rw [htb], hlen⟩]
            refine ⟨.tup [.nr 28 1 (l'.map brow), .bool true], ?_, _, l', .inl rfl, he, rfl⟩
            rw [decide_eq_true htb] at hEq
            have hln : ((l'.length : Int) = (n : Int)) = True := eq_true (by first | omega | (simp only [List.length_nil] at hlen; omega))
            clear htb he
            cases s' <;> simp only [rbx] at hC <;> (refine dw_in (fn := Try.f9) rfl body9 (by simp) ?_) <;> simp -implicitDefEqProofs (maxSteps := 4000000) (disch := omega) only [go_sem, go_sem_proc, dr, Nat.min_def, ↓reduceIte, hRd, hC, hmi, hT, hEq, hln, List.length_map, List.length_cons, List.getElem?_cons_zero, List.drop_succ_cons, List.drop_zero]
          · rw [if_neg (by rintro ⟨h, _⟩; injection h with h; exact htb h)]
            refine ⟨.tup [.nils, .bool false], ?_, rfl⟩
            rw [decide_eq_false htb] at hEq
            have hln : ((l'.length : Int) = (n : Int)) = True := eq_true (by first | omega | (simp only [List.length_nil] at hlen; omega))
            clear htb he
            cases s' <;> simp only [rbx] at hC <;> (refine dw_in (fn := Try.f9) rfl body9 (by simp) ?_) <;> simp -implicitDefEqProofs (maxSteps := 4000000) (disch := omega) only [go_sem, go_sem_proc, dr, Nat.min_def, ↓reduceIte, hRd, hC, hmi, hT, hEq, hln, List.length_map, List.length_cons, List.getElem?_cons_zero, List.drop_succ_cons, List.drop_zero]
        · rw [if_neg (by rintro ⟨_, h⟩; exact hlen h)]
          refine ⟨.tup [.nils, .bool false], ?_, rfl⟩
          have hln : ((l'.length : Int) = (n : Int)) = False := eq_false (by first | omega | (simp only [List.length_nil] at hlen; omega))
          clear hEq hlen he
          cases s' <;> simp only [rbx] at hC <;> (refine dw_in (fn := Try.f9) rfl body9 (by simp) ?_) <;> simp -implicitDefEqProofs (maxSteps := 4000000) (disch := omega) only [go_sem, go_sem_proc, dr, Nat.min_def, ↓reduceIte, hRd, hC, hmi, hT, hln, List.length_map, List.length_cons, List.getElem?_cons_zero, List.drop_succ_cons, List.drop_zero]
    · replace hT := hT2 hl0
      clear hT2
      subst hl0
      cases ht : refTell false 2 [] with
      | none =>
        rw [ht] at hT
        rw [if_neg (by rintro ⟨h, _⟩; cases h)]
        refine ⟨.tup [.nils, .bool false], ?_, rfl⟩
        dsimp only at hT
        clear hE h8
        cases s' <;> simp only [rbx] at hC <;> (refine dw_in (fn := Try.f9) rfl body9 (by simp) ?_) <;> simp -implicitDefEqProofs (maxSteps := 4000000) (disch := omega) only [go_sem, go_sem_proc, dr, Nat.min_def, ↓reduceIte, hRd, hC, hmi, hT, List.length_map, List.length_cons, List.getElem?_cons_zero, List.drop_succ_cons, List.drop_zero]
      | some t =>
        obtain ⟨e1, e2⟩ := hE t ht
        rw [ht] at hT
        dsimp only at hT
        have hEq := EqB (a := some t) (b := some (2 :: zs)) e1 h8
        change dw E 23 [.sl 1 (ints .u8 t), .sl 1 (ints .u8 (2 :: zs))] [] = some (.bool (decide (t = 2 :: zs)), []) at hEq
        clear hE h8 ht
        by_cases hlen : ([] : List RB').length = n
        · by_cases htb : t = 2 :: zs
          · rw [if_pos ⟨by rw [htb], hlen⟩]
            refine ⟨.tup [.nils, .bool true], ?_, _, [], .inr ⟨rfl, rfl⟩, he, rfl⟩
            rw [decide_eq_true htb] at hEq
            have hln : ((0 : Int) = (n : Int)) = True := eq_true (by first | omega | (simp only [List.length_nil] at hlen; omega))
            clear htb he
            cases s' <;> simp only [rbx] at hC <;> (refine dw_in (fn := Try.f9) rfl body9 (by simp) ?_) <;> simp -implicitDefEqProofs (maxSteps := 4000000) (disch := omega) only [go_sem, go_sem_proc, dr, Nat.min_def, ↓reduceIte, hRd, hC, hmi, hT, hEq, hln, List.length_map, List.length_cons, List.getElem?_cons_zero, List.drop_succ_cons, List.drop_zero]
          · rw [if_neg (by rintro ⟨h, _⟩; injection h with h; exact htb h)]
            refine ⟨.tup [.nils, .bool false], ?_, rfl⟩
            rw [decide_eq_false htb] at hEq
            have hln : ((0 : Int) = (n : Int)) = True := eq_true (by first | omega | (simp only [List.length_nil] at hlen; omega))
            clear htb he
            cases s' <;> simp only [rbx] at hC <;> (refine dw_in (fn := Try.f9) rfl body9 (by simp) ?_) <;> simp -implicitDefEqProofs (maxSteps := 4000000) (disch := omega) only [go_sem, go_sem_proc, dr, Nat.min_def, ↓reduceIte, hRd, hC, hmi, hT, hEq, hln, List.length_map, List.length_cons, List.getElem?_cons_zero, List.drop_succ_cons, List.drop_zero]
        · rw [if_neg (by rintro ⟨_, h⟩; exact hlen h)]
          refine ⟨.tup [.nils, .bool false], ?_, rfl⟩
          have hln : ((0 : Int) = (n : Int)) = False := eq_false (by first | omega | (simp only [List.length_nil] at hlen; omega))
          clear hEq hlen he
          cases s' <;> simp only [rbx] at hC <;> (refine dw_in (fn := Try.f9) rfl body9 (by simp) ?_) <;> simp -implicitDefEqProofs (maxSteps := 4000000) (disch := omega) only [go_sem, go_sem_proc, dr, Nat.min_def, ↓reduceIte, hRd, hC, hmi, hT, hln, List.length_map, List.length_cons, List.getElem?_cons_zero, List.drop_succ_cons, List.drop_zero]
  by_cases k4 : k = 4
  · obtain ⟨X, s', l', hC, hX, he, hB⟩ := c4 k4
    clear c1 c2 c4
    subst k4
    rw [← refTell_of he, ← len_of he]
    rw [← refTell_of he] at hE
    rw [← len_of he] at q2
    clear hsh q1
    generalize rawB 4 zs n = raw at *
    have hmi : True := trivial
    have hT := Tell_spec (k := 4) (X := .sl 1 (l'.map brow)) (.inl rfl) (L := l') (fun o ho => ⟨(hB o ho).1, by have := (hB o ho).2; omega⟩) (by omega)
    have hT2 : l' = [] → dw E 15 [.int .i64 4, .nils] [] = some (tellRB 4 l', []) := fun e => Tell_spec (k := 4) (X := .nils) (.inr ⟨rfl, e⟩) (fun o ho => ⟨(hB o ho).1, by have := (hB o ho).2; omega⟩) (by omega)
    unfold tellRB at hT hT2
    rw [if_pos (shortO_iff.2 fun o ho => (hB o ho).2)] at hT hT2
    clear hB hG hk
    rcases hX with rfl | ⟨rfl, hl0⟩
    · clear hT2
      cases ht : refTell false 4 l' with
      | none =>
        rw [ht] at hT
        rw [if_neg (by rintro ⟨h, _⟩; cases h)]
        refine ⟨.tup [.nils, .bool false], ?_, rfl⟩
        dsimp only at hT
        clear hE h8
        cases s' <;> simp only [rbx] at hC <;> (refine dw_in (fn := Try.f9) rfl body9 (by simp) ?_) <;> simp -implicitDefEqProofs (maxSteps := 4000000) (disch := omega) only [go_sem, go_sem_proc, dr, Nat.min_def, ↓reduceIte, hRd, hC, hmi, hT, List.length_map, List.length_cons, List.getElem?_cons_zero, List.drop_succ_cons, List.drop_zero]
      | some t =>
        obtain ⟨e1, e2⟩ := hE t ht
        rw [ht] at hT
        dsimp only at hT
        have hEq := EqB (a := some t) (b := some (4 :: zs)) e1 h8
        change dw E 23 [.sl 1 (ints .u8 t), .sl 1 (ints .u8 (4 :: zs))] [] = some (.bool (decide (t = 4 :: zs)), []) at hEq
        clear hE h8 ht
        by_cases hlen : l'.length = n
        · by_cases htb : t = 4 :: zs
          · rw [if_pos ⟨by rw [htb], hlen⟩]
            refine ⟨.tup [.nr 28 1 (l'.map brow), .bool true], ?_, _, l', .inl rfl, he, rfl⟩
            rw [decide_eq_true htb] at hEq
            have hln : ((l'.length : Int) = (n : Int)) = True := eq_true (by first | omega | (simp only [List.length_nil] at hlen; omega))
            clear htb he
            cases s' <;> simp only [rbx] at hC <;> (refine dw_in (fn := Try.f9) rfl body9 (by simp) ?_) <;> simp -implicitDefEqProofs (maxSteps := 4000000) (disch := omega) only [go_sem, go_sem_proc, dr, Nat.min_def, ↓reduceIte, hRd, hC, hmi, hT, hEq, hln, List.length_map, List.length_cons, List.getElem?_cons_zero, List.drop_succ_cons, List.drop_zero]
          · rw [if_neg (by rintro ⟨h, _⟩; injection h with h; exact htb h)]
            refine ⟨.tup [.nils, .bool false], ?_, rfl⟩
            rw [decide_eq_false htb] at hEq
            have hln : ((l'.length : Int) = (n : Int)) = True := eq_true (by first | omega | (simp only [List.length_nil] at hlen; omega))
            clear htb he
            cases s' <;> simp only [rbx] at hC <;> (refine dw_in (fn := Try.f9) rfl body9 (by simp) ?_) <;> simp -implicitDefEqProofs (maxSteps := 4000000) (disch := omega) only [go_sem, go_sem_proc, dr, Nat.min_def, ↓reduceIte, hRd, hC, hmi, hT, hEq, hln, List.length_map, List.length_cons, List.getElem?_cons_zero, List.drop_succ_cons, List.drop_zero]
        · rw [if_neg (by rintro ⟨_, h⟩; exact hlen h)]
          refine ⟨.tup [.nils, .bool false], ?_, rfl⟩
          have hln : ((l'.length : Int) = (n : Int)) = False := eq_false (by first | omega | (simp only [List.length_nil] at hlen; omega))
          clear hEq hlen he
          cases s' <;> simp only [rbx] at hC <;> (refine dw_in (fn := Try.f9) rfl body9 (by simp) ?_) <;> simp -implicitDefEqProofs (maxSteps := 4000000) (disch := omega) only [go_sem, go_sem_proc, dr, Nat.min_def, ↓reduceIte, hRd, hC, hmi, hT, hln, List.length_map, List.length_cons, List.getElem?_cons_zero, List.drop_succ_cons, List.drop_zero]
    · replace hT := hT2 hl0
      clear hT2
      subst hl0
      cases ht : refTell false 4 [] with
      | none =>
        rw [ht] at hT
        rw [if_neg (by rintro ⟨h, _⟩; cases h)]
        refine ⟨.tup [.nils, .bool false], ?_, rfl⟩
        dsimp only at hT
        clear hE h8
        cases s' <;> simp only [rbx] at hC <;> (refine dw_in (fn := Try.f9) rfl body9 (by simp) ?_) <;> simp -implicitDefEqProofs (maxSteps := 4000000) (disch := omega) only [go_sem, go_sem_proc, dr, Nat.min_def, ↓reduceIte, hRd, hC, hmi, hT, List.length_map, List.length_cons, List.getElem?_cons_zero, List.drop_succ_cons, List.drop_zero]
      | some t =>
        obtain ⟨e1, e2⟩ := hE t ht
        rw [ht] at hT
        dsimp only at hT
        have hEq := EqB (a := some t) (b := some (4 :: zs)) e1 h8
        change dw E 23 [.sl 1 (ints .u8 t), .sl 1 (ints .u8 (4 :: zs))] [] = some (.bool (decide (t = 4 :: zs)), []) at hEq
        clear hE h8 ht
        by_cases hlen : ([] : List RB').length = n
        · by_cases htb : t = 4 :: zs
          · rw [if_pos ⟨by rw [htb], hlen⟩]
            refine ⟨.tup [.nils, .bool true], ?_, _, [], .inr ⟨rfl, rfl⟩, he, rfl⟩
            rw [decide_eq_true htb] at hEq
            have hln : ((0 : Int) = (n : Int)) = True := eq_true (by first | omega | (simp only [List.length_nil] at hlen; omega))
            clear htb he
            cases s' <;> simp only [rbx] at hC <;> (refine dw_in (fn := Try.f9) rfl body9 (by simp) ?_) <;> simp -implicitDefEqProofs (maxSteps := 4000000) (disch := omega) only [go_sem, go_sem_proc, dr, Nat.min_def, ↓reduceIte, hRd, hC, hmi, hT, hEq, hln, List.length_map, List.length_cons, List.getElem?_cons_zero, List.drop_succ_cons, List.drop_zero]
          · rw [if_neg (by rintro ⟨h, _⟩; injection h with h; exact htb h)]
            refine ⟨.tup [.nils, .bool false], ?_, rfl⟩
            rw [decide_eq_false htb] at hEq
            have hln : ((0 : Int) = (n : Int)) = True := eq_true (by first | omega | (simp only [List.length_nil] at hlen; omega))
            clear htb he
            cases s' <;> simp only [rbx] at hC <;> (refine dw_in (fn := Try.f9) rfl body9 (by simp) ?_) <;> simp -implicitDefEqProofs (maxSteps := 4000000) (disch := omega) only [go_sem, go_sem_proc, dr, Nat.min_def, ↓reduceIte, hRd, hC, hmi, hT, hEq, hln, List.length_map, List.length_cons, List.getElem?_cons_zero, List.drop_succ_cons, List.drop_zero]
        · rw [if_neg (by rintro ⟨_, h⟩; exact hlen h)]
          refine ⟨.tup [.nils, .bool false], ?_, rfl⟩
          have hln : ((0 : Int) = (n : Int)) = False := eq_false (by first | omega | (simp only [List.length_nil] at hlen; omega))
          clear hEq hlen he
          cases s' <;> simp only [rbx] at hC <;> (refine dw_in (fn := Try.f9) rfl body9 (by simp) ?_) <;> simp -implicitDefEqProofs (maxSteps := 4000000) (disch := omega) only [go_sem, go_sem_proc, dr, Nat.min_def, ↓reduceIte, hRd, hC, hmi, hT, hln, List.length_map, List.length_cons, List.getElem?_cons_zero, List.drop_succ_cons, List.drop_zero]
  have e0 : rawB k zs n = [] := by simp [rawB, k1, k2, k4]
  have hT := Tell_spec (k := k) (X := .nils) (L := []) (.inr ⟨rfl, rfl⟩) (fun o ho => by simp at ho) (by simp)
  rw [e0]
  have ht : refTell false k [] = none := by
    unfold refTell refBody
    simp [k1, k2, k4]
  unfold tellRB at hT
  rw [ht, show shortO [] = true from rfl, if_pos rfl] at hT
  rw [ht, if_neg (by rintro ⟨h, _⟩; cases h)]
  refine ⟨.tup [.nils, .bool false], ?_, rfl⟩
  dsimp only at hT
  clear hE q1 h8 c1 c2 c4 ht e0
  refine dw_in (fn := Try.f9) rfl body9 (by simp) ?_
  simp -implicitDefEqProofs (maxSteps := 4000000) (disch := omega) only [go_sem, go_sem_proc, dr, Nat.min_def, ↓reduceIte, hRd, hT, eq_false k1, eq_false k2, eq_false k4, List.length_cons, List.getElem?_cons_zero, List.drop_succ_cons, List.drop_zero]
end Go.Proofs.Ytmaehmacngldbaa.D
