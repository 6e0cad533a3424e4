/- Versions whose IDs do not rise, too many, or one whose row does not fit make no group. -/
import Derived.Test.YtfgbklmmildakaaGrop4
namespace Go.Proofs.Ytfgbklmmildakaa.D
open Go Go.Den
set_option linter.unusedSimpArgs false
set_option linter.unusedVariables false
set_option maxRecDepth 20000
set_option maxHeartbeats 8000000
theorem rowN_hd {s : List Col} (hs : 1 ≤ s.length) (x : Int) : rowN s x = ⟨false, 1, x % 16, none⟩ :: (rowN s x).tail := by
  cases s with
  | nil => simp at hs
  | cons c r => simp [rowN, rowE]
def rowG (s : List Col) (i : Nat) : List Val := ⟨false, 1, i, none⟩ :: (rowN s ((i : Int) * 7)).tail
def verG (s : List Col) (i : Nat) : Ver := ⟨(i : Int) + 1, some (rowG s i), 0, 0, 0, 0⟩
def versG (s : List Col) (m : Nat) : List Ver := (List.range m).map (verG s)
theorem versG_len (s : List Col) (m : Nat) : (versG s m).length = m := by simp [versG]
theorem versG_succ (s : List Col) (m : Nat) : versG s (m + 1) = versG s m ++ [verG s m] := by simp [versG, List.range_succ]
theorem versG_get {s : List Col} {m i : Nat} (h : i < m) : (versG s m)[i]? = some (verG s i) := by simp [versG, h]
theorem fits_rowG (n : Int) (i : Nat) : fits (schemaN n) (rowG (schemaN n) i) = true := by
  have hf := fits_rowN n ((i : Int) * 7)
  have h0 : (schemaN n)[0]? = some keyCol := rfl
  have e : rowG (schemaN n) i = (rowN (schemaN n) ((i : Int) * 7)).set 0 ⟨false, 1, i, none⟩ := by
    rw [rowN_hd (schemaN_pos n) ((i : Int) * 7)]
    rfl
  rw [e, fits_set hf h0]
  rfl
theorem rowG_R1 (n : Int) (i : Nat) : R1 (rowG (schemaN n) i) ∧ (rowG (schemaN n) i).length ≤ 1000000 := by
  have hf := fits_rowG n i
  have hl : (rowG (schemaN n) i).length = (schemaN n).length := by
    unfold fits at hf
    simp only [Bool.and_eq_true, decide_eq_true_eq] at hf
    exact hf.1
  refine ⟨fun v hv => ?_, by have := schemaN_length n; omega⟩
  unfold rowG at hv
  rcases List.mem_cons.1 hv with rfl | hv
  · simp [bz]
  · exact rowN_R1 _ ((i : Int) * 7) v (List.mem_of_mem_tail hv)
def stB (M : List (List PV)) (C : List (List PV)) (cnt how at' : Int) (i : Nat) (f : Bool) : St :=
  match f with
  | false => ⟨[(1, .int .i64 cnt), (2, .int .i64 how), (3, .int .i64 at'), (9, .pb 1048585 0), (10, .h 2097792), (11, .int .i64 i)], [(1048585, some ⟨true, .box [.h 2097728]⟩), (2097728, some ⟨true, .row 54 3 C⟩), (2097792, some ⟨true, .row 37 6 M⟩)], 1⟩
  | true => ⟨[(1, .int .i64 cnt), (2, .int .i64 how), (3, .int .i64 at'), (9, .pb 1048585 0), (10, .h 2097792), (11, .int .i64 i)], [(1048585, some ⟨true, .box [.sl 3 C]⟩), (2097792, some ⟨true, .row 37 6 M⟩)], 1⟩
theorem GropRefuses_spec {n count how at' : Int} : dw E 3 [.int .i64 n, .int .i64 count, .int .i64 how, .int .i64 at'] [] = some (.bool true, []) := by
  have hA := awake13
  have hSch := Schema_spec (n := n)
  obtain ⟨m, hm, hm1, hm2⟩ : ∃ m : Nat, count % 128 + 1 = (m : Int) ∧ 1 ≤ m ∧ m ≤ 128 := ⟨(count % 128 + 1).toNat, by omega, by omega, by omega⟩
  have hRow := fun x : Int => Row_spec (s := schemaN n) (n := x) (by have := schemaN_length n; omega)
  have hhd := fun x : Int => rowN_hd (schemaN_pos n) x
  refine dw_in (fn := Try.f3) rfl body3 (by simp) ?_
  simp -implicitDefEqProofs (maxSteps := 4000000) (disch := omega) only [go_sem, go_sem_proc, dr, Nat.min_def, ↓reduceIte, hSch, hm]
  refine runs_any (fun a : Nat × Bool => stB ((versG (schemaN n) a.1).map Ver.pv) ((schemaN n).map Col.pv) m how at' a.1 a.2) (fun a => m - a.1) (0, false) (fun a => a.1 ≤ m) (Nat.zero_le _) ?_ ?_
  · clear hRow hhd
    simp -implicitDefEqProofs (maxSteps := 4000000) (disch := omega) only [go_sem, go_sem_proc, dr, Nat.min_def, ↓reduceIte, stB]
    rfl
  · rintro ⟨i, f⟩ hi
    dsimp only at hi ⊢
    rcases Nat.lt_or_eq_of_le hi with hi | hi
    · have hR := hRow ((i : Int) * 7)
      have hV : (versG (schemaN n) (i + 1)).map Ver.pv = (versG (schemaN n) i).map Ver.pv ++ [[.int .i64 ((i : Int) + 1), .sl 4 ([.bool false, .int .i64 1, .int .i64 i, .nils] :: (rowN (schemaN n) ((i : Int) * 7)).tail.map Val.pv), .int .i64 0, .int .i64 0, .int .i64 0, .int .i64 0]] := by rw [versG_succ, List.map_append]; rfl
      have hl : ((versG (schemaN n) i).map Ver.pv).length = i := by rw [List.length_map, versG_len]
      have hhd' := hhd ((i : Int) * 7)
      have hrm : (rowN (schemaN n) ((i : Int) * 7)).map Val.pv = [.bool false, .int .i64 1, .int .i64 ((i : Int) * 7 % 16), .nils] :: (rowN (schemaN n) ((i : Int) * 7)).tail.map Val.pv := by
        have := congrArg (List.map Val.pv) hhd'
        rw [List.map_cons] at this
        exact this
      rw [hrm] at hR
      generalize (rowN (schemaN n) ((i : Int) * 7)).tail.map Val.pv = T at *
      obtain ⟨g, hg⟩ : ∃ g, (T.any fun x => x.any sharesP) = g := ⟨_, rfl⟩
      have hi1 : i + 1 ≤ m := hi
      have hmm : m - (i + 1) < m - i := by omega
      generalize hM2 : (versG (schemaN n) (i + 1)).map Ver.pv = M2 at *
      generalize (versG (schemaN n) i).map Ver.pv = M at *
      generalize (schemaN n).map Col.pv = C at *
      clear hRow hhd hhd' hrm hSch hA
      cases f
      · cases g
        · simp -implicitDefEqProofs (maxSteps := 4000000) (disch := omega) only [go_sem, go_sem_proc, dr, Nat.min_def, ↓reduceIte, stB, hR, hl, hg]
          exact ⟨(i + 1, false), (by show _ = some (stB (List.map Ver.pv (versG (schemaN n) (i + 1))) C m how at' (i + 1) false); rw [hM2, hV]; rfl), hi1, hmm⟩
        · simp -implicitDefEqProofs (maxSteps := 4000000) (disch := omega) only [go_sem, go_sem_proc, dr, Nat.min_def, ↓reduceIte, stB, hR, hl, hg]
          exact ⟨(i + 1, true), (by show _ = some (stB (List.map Ver.pv (versG (schemaN n) (i + 1))) C m how at' (i + 1) true); rw [hM2, hV]; rfl), hi1, hmm⟩
      · cases g
        · simp -implicitDefEqProofs (maxSteps := 4000000) (disch := omega) only [go_sem, go_sem_proc, dr, Nat.min_def, ↓reduceIte, stB, hR, hl, hg]
          exact ⟨(i + 1, true), (by show _ = some (stB (List.map Ver.pv (versG (schemaN n) (i + 1))) C m how at' (i + 1) true); rw [hM2, hV]; rfl), hi1, hmm⟩
        · simp -implicitDefEqProofs (maxSteps := 4000000) (disch := omega) only [go_sem, go_sem_proc, dr, Nat.min_def, ↓reduceIte, stB, hR, hl, hg]
          exact ⟨(i + 1, true), (by show _ = some (stB (List.map Ver.pv (versG (schemaN n) (i + 1))) C m how at' (i + 1) true); rw [hM2, hV]; rfl), hi1, hmm⟩
    · subst hi
      clear hRow hhd hSch
      obtain ⟨k, hk, hkm⟩ : ∃ k : Nat, at' % 256 % (i : Int) = (k : Int) ∧ k < i := by
        have h1 := Int.emod_nonneg (at' % 256) (b := (i : Int)) (by omega)
        have h2 := Int.emod_lt_of_pos (at' % 256) (b := (i : Int)) (by omega)
        exact ⟨(at' % 256 % (i : Int)).toNat, by omega, by omega⟩
      have hVl := versG_len (schemaN n) i
      have hrise : ∀ (a b : Nat) (w v : Ver), (versG (schemaN n) i)[a]? = some w → (versG (schemaN n) i)[b]? = some v → a < b → w.id < v.id := fun a b w v hw hv hab => by
        have ha : a < i := by have := (List.getElem?_eq_some_iff.1 hw).1; omega
        have hb : b < i := by have := (List.getElem?_eq_some_iff.1 hv).1; omega
        rw [versG_get ha] at hw
        rw [versG_get hb] at hv
        injection hw with hw
        injection hv with hv
        rw [← hw, ← hv]
        show (a : Int) + 1 < (b : Int) + 1
        omega
      have hpv : ∀ a, a < i → ((versG (schemaN n) i).map Ver.pv)[a]? = some [.int .i64 ((a : Int) + 1), .sl 4 ((rowG (schemaN n) a).map Val.pv), .int .i64 0, .int .i64 0, .int .i64 0, .int .i64 0] := fun a ha => by
        rw [List.getElem?_map, versG_get ha]
        rfl
      have hMl : ((versG (schemaN n) i).map Ver.pv).length = i := by rw [List.length_map, hVl]
      -- nothing is wrong but how many
      have plain : (64 < i → dw E 7 [.agg [.sl 3 ((schemaN n).map Col.pv)], .sl 6 ((versG (schemaN n) i).map Ver.pv)] [] = some (.tup [.nilp, .bool false], [])) ∧ (i ≤ 64 → ∃ (P : List PV) (ids : List Int) (S : List (List PV)), ids.length = i ∧ S.length = i ∧ (∀ (a : Nat) (x : List PV), S[a]? = some x → x = [PV.int .i64 0, PV.int .i64 0, PV.int .i64 0, PV.int .i64 0]) ∧
          dw E 7 [.agg [.sl 3 ((schemaN n).map Col.pv)], .sl 6 ((versG (schemaN n) i).map Ver.pv)] [] = some (.tup [.nb [.pc P, .nr 3 1 (ints .i64 ids), .nr 35 4 S], .bool true], [])) := by
        have up : upTo (versG (schemaN n) i) (versG (schemaN n) i).length := fun a w v _ hw hv => hrise a (a + 1) w v hw hv (by omega)
        refine ⟨fun h => GMake_no (by omega) (by omega) up (.inl (by omega)), fun h => ?_⟩
        have hrow : (versG (schemaN n) i).map (·.row) = ((List.range i).map (rowG (schemaN n))).map some := by
          unfold versG
          rw [List.map_map, List.map_map]
          rfl
        refine ⟨_, (versG (schemaN n) i).map (·.id), (versG (schemaN n) i).map Ver.span, by rw [List.length_map, hVl], by rw [List.length_map, hVl], fun a x hx => ?_, GMake_ok (rows := (List.range i).map (rowG (schemaN n))) (by omega) (by omega) up hrow ⟨by simp; omega, fun r hr => ?_⟩ fun r hr => ?_⟩
        · rw [List.getElem?_map, Option.map_eq_some_iff] at hx
          obtain ⟨v, hv, rfl⟩ := hx
          unfold versG at hv
          obtain ⟨b, _, rfl⟩ := List.mem_map.1 (List.mem_of_getElem? hv)
          rfl
        · obtain ⟨b, _, rfl⟩ := List.mem_map.1 hr
          obtain ⟨q1, q2⟩ := rowG_R1 n b
          exact ⟨q2, q1⟩
        · obtain ⟨b, _, rfl⟩ := List.mem_map.1 hr
          exact fits_rowG n b
      -- no row at k
      have norow : dw E 7 [.agg [.sl 3 ((schemaN n).map Col.pv)], .sl 6 (((versG (schemaN n) i).map Ver.pv).set k [.int .i64 ((k : Int) + 1), .nils, .int .i64 0, .int .i64 0, .int .i64 0, .int .i64 0])] [] = some (.tup [.nilp, .bool false], []) := by
        have e : ((versG (schemaN n) i).set k ⟨(k : Int) + 1, none, 0, 0, 0, 0⟩).map Ver.pv = ((versG (schemaN n) i).map Ver.pv).set k [.int .i64 ((k : Int) + 1), .nils, .int .i64 0, .int .i64 0, .int .i64 0, .int .i64 0] := by rw [List.map_set]; rfl
        rw [← e]
        have hid : ∀ (a : Nat) (w : Ver), ((versG (schemaN n) i).set k ⟨(k : Int) + 1, none, 0, 0, 0, 0⟩)[a]? = some w → w.id = (a : Int) + 1 := fun a w hw => by
          have ha : a < i := by have := (List.getElem?_eq_some_iff.1 hw).1; rw [List.length_set] at this; omega
          rw [List.getElem?_set] at hw
          split at hw
          · rename_i he
            subst he
            rw [if_pos (by omega)] at hw
            injection hw with hw
            rw [← hw]
          · rw [versG_get ha] at hw
            injection hw with hw
            rw [← hw]
            rfl
        refine GMake_no (by rw [List.length_set]; omega) (by rw [List.length_set]; omega) (fun a w v _ hw hv => by rw [hid _ _ hw, hid _ _ hv]; omega) (.inr ?_)
        unfold allFit
        rw [List.all_eq_false]
        refine ⟨none, ?_, ?_⟩
        · refine List.mem_map.2 ⟨⟨(k : Int) + 1, none, 0, 0, 0, 0⟩, ?_, rfl⟩
          exact List.mem_set (by omega) _
        · have := fits_len (s := schemaN n) (r := []) (by have := schemaN_pos n; simp; omega)
          simp [vz, this]
      have badid : ∀ (j : Nat), k = j + 1 → dw E 7 [.agg [.sl 3 ((schemaN n).map Col.pv)], .sl 6 (((versG (schemaN n) i).map Ver.pv).set k [.int .i64 ((j : Int) + 1), .sl 4 ((rowG (schemaN n) k).map Val.pv), .int .i64 0, .int .i64 0, .int .i64 0, .int .i64 0])] [] = some (.tup [.nilp, .bool false], []) := fun j hj => by
        subst hj
        have e : ((versG (schemaN n) i).set (j + 1) ⟨(j : Int) + 1, some (rowG (schemaN n) (j + 1)), 0, 0, 0, 0⟩).map Ver.pv = ((versG (schemaN n) i).map Ver.pv).set (j + 1) [.int .i64 ((j : Int) + 1), .sl 4 ((rowG (schemaN n) (j + 1)).map Val.pv), .int .i64 0, .int .i64 0, .int .i64 0, .int .i64 0] := by rw [List.map_set]; rfl
        rw [← e]
        refine GMake_bad (j := j) (w1 := verG (schemaN n) j) (w2 := ⟨(j : Int) + 1, some (rowG (schemaN n) (j + 1)), 0, 0, 0, 0⟩) (by rw [List.length_set]; omega) ?_ ?_ (Int.le_refl _) fun a w v ha hw hv => ?_
        · rw [List.getElem?_set, if_neg (by omega), versG_get (by omega)]
        · rw [List.getElem?_set, if_pos rfl, if_pos (by omega)]
        · rw [List.getElem?_set, if_neg (by omega)] at hw hv
          exact hrise a (a + 1) w v hw hv (by omega)
      have swap : ∀ (j : Nat), k = j + 1 → dw E 7 [.agg [.sl 3 ((schemaN n).map Col.pv)], .sl 6 ((((versG (schemaN n) i).map Ver.pv).set k [.int .i64 ((j : Int) + 1), .sl 4 ((rowG (schemaN n) k).map Val.pv), .int .i64 0, .int .i64 0, .int .i64 0, .int .i64 0]).set j [.int .i64 ((k : Int) + 1), .sl 4 ((rowG (schemaN n) j).map Val.pv), .int .i64 0, .int .i64 0, .int .i64 0, .int .i64 0])] [] = some (.tup [.nilp, .bool false], []) := fun j hj => by
        subst hj
        have e : (((versG (schemaN n) i).set (j + 1) ⟨(j : Int) + 1, some (rowG (schemaN n) (j + 1)), 0, 0, 0, 0⟩).set j ⟨((j + 1 : Nat) : Int) + 1, some (rowG (schemaN n) j), 0, 0, 0, 0⟩).map Ver.pv = (((versG (schemaN n) i).map Ver.pv).set (j + 1) [.int .i64 ((j : Int) + 1), .sl 4 ((rowG (schemaN n) (j + 1)).map Val.pv), .int .i64 0, .int .i64 0, .int .i64 0, .int .i64 0]).set j [.int .i64 (((j + 1 : Nat) : Int) + 1), .sl 4 ((rowG (schemaN n) j).map Val.pv), .int .i64 0, .int .i64 0, .int .i64 0, .int .i64 0] := by rw [List.map_set, List.map_set]; rfl
        rw [← e]
        refine GMake_bad (j := j) (w1 := ⟨((j + 1 : Nat) : Int) + 1, some (rowG (schemaN n) j), 0, 0, 0, 0⟩) (w2 := ⟨(j : Int) + 1, some (rowG (schemaN n) (j + 1)), 0, 0, 0, 0⟩) (by rw [List.length_set, List.length_set]; omega) ?_ ?_ (by show (j : Int) + 1 ≤ ((j + 1 : Nat) : Int) + 1; omega) fun a w v ha hw hv => ?_
        · rw [List.getElem?_set, if_pos rfl, if_pos (by rw [List.length_set]; omega)]
        · rw [List.getElem?_set, if_neg (by omega), List.getElem?_set, if_pos rfl, if_pos (by omega)]
        · rw [List.getElem?_set, if_neg (by omega), List.getElem?_set, if_neg (by omega)] at hw
          by_cases haj : a + 1 = j
          · rw [List.getElem?_set, if_pos (by omega), if_pos (by rw [List.length_set]; omega)] at hv
            injection hv with hv
            rw [versG_get (by omega)] at hw
            injection hw with hw
            rw [← hw, ← hv]
            show (a : Int) + 1 < ((j + 1 : Nat) : Int) + 1
            omega
          · rw [List.getElem?_set, if_neg (by omega), List.getElem?_set, if_neg (by omega)] at hv
            exact hrise a (a + 1) w v hw hv (by omega)
      clear hrise hVl
      obtain ⟨RG, hRG⟩ : ∃ RG : Nat → List (List PV), ∀ a, RG a = (rowG (schemaN n) a).map Val.pv := ⟨_, fun _ => rfl⟩
      simp only [← hRG] at hpv badid swap
      clear hRG
      generalize (versG (schemaN n) i).map Ver.pv = M at *
      generalize (schemaN n).map Col.pv = C at *
      -- the ends: all is well but how many
      obtain ⟨q, hq, hq0, hq4⟩ : ∃ q : Int, how % 4 = q ∧ 0 ≤ q ∧ q < 4 := ⟨_, rfl, by omega, by omega⟩
      have hq' : q = 0 ∨ q = 1 ∨ q = 2 ∨ q = 3 := by omega
      have hMk := hpv k hkm
      by_cases hk0 : k = 0
      · subst hk0
        rcases hq' with rfl | rfl | rfl | rfl
        · by_cases h64 : 64 < i
          · have hG := plain.1 h64
            clear plain norow badid swap hpv
            cases f <;> simp -implicitDefEqProofs (maxSteps := 4000000) (disch := omega) only [go_sem, go_sem_proc, dr, Nat.min_def, ↓reduceIte, stB, hk, hq, hMl, hMk, hG, hA, Bool.not_false, Bool.not_true]
          · obtain ⟨P, ids, S, l1, l2, hz, hG⟩ := plain.2 (by omega)
            have hI := IDs_spec (P := P) (ids := ids) (S := S) (by omega)
            have hL := Live_spec (P := P) (I := ints .i64 ids) (S := S) (by omega) hz
            rw [l2] at hL
            clear plain norow badid swap hpv hz
            cases f <;> simp -implicitDefEqProofs (maxSteps := 4000000) (disch := omega) only [go_sem, go_sem_proc, dr, Nat.min_def, ↓reduceIte, stB, hk, hq, hMl, hMk, hG, hI, hL, l1, hA, Bool.not_false, Bool.not_true]
        · have hG := norow
          simp only [show ((0 : Nat) : Int) + 1 = 1 from rfl] at hG
          clear plain norow badid swap hpv
          cases f <;> simp -implicitDefEqProofs (maxSteps := 4000000) (disch := omega) only [go_sem, go_sem_proc, dr, Nat.min_def, ↓reduceIte, stB, hk, hq, hMl, hMk, hG, hA, Bool.not_false, Bool.not_true]
        · by_cases h64 : 64 < i
          · have hG := plain.1 h64
            clear plain norow badid swap hpv
            cases f <;> simp -implicitDefEqProofs (maxSteps := 4000000) (disch := omega) only [go_sem, go_sem_proc, dr, Nat.min_def, ↓reduceIte, stB, hk, hq, hMl, hMk, hG, hA, Bool.not_false, Bool.not_true]
          · obtain ⟨P, ids, S, l1, l2, hz, hG⟩ := plain.2 (by omega)
            have hI := IDs_spec (P := P) (ids := ids) (S := S) (by omega)
            have hL := Live_spec (P := P) (I := ints .i64 ids) (S := S) (by omega) hz
            rw [l2] at hL
            clear plain norow badid swap hpv hz
            cases f <;> simp -implicitDefEqProofs (maxSteps := 4000000) (disch := omega) only [go_sem, go_sem_proc, dr, Nat.min_def, ↓reduceIte, stB, hk, hq, hMl, hMk, hG, hI, hL, l1, hA, Bool.not_false, Bool.not_true]
        · by_cases h64 : 64 < i
          · have hG := plain.1 h64
            clear plain norow badid swap hpv
            cases f <;> simp -implicitDefEqProofs (maxSteps := 4000000) (disch := omega) only [go_sem, go_sem_proc, dr, Nat.min_def, ↓reduceIte, stB, hk, hq, hMl, hMk, hG, hA, Bool.not_false, Bool.not_true]
          · obtain ⟨P, ids, S, l1, l2, hz, hG⟩ := plain.2 (by omega)
            have hI := IDs_spec (P := P) (ids := ids) (S := S) (by omega)
            have hL := Live_spec (P := P) (I := ints .i64 ids) (S := S) (by omega) hz
            rw [l2] at hL
            clear plain norow badid swap hpv hz
            cases f <;> simp -implicitDefEqProofs (maxSteps := 4000000) (disch := omega) only [go_sem, go_sem_proc, dr, Nat.min_def, ↓reduceIte, stB, hk, hq, hMl, hMk, hG, hI, hL, l1, hA, Bool.not_false, Bool.not_true]
      · obtain ⟨j, rfl⟩ : ∃ j, k = j + 1 := ⟨k - 1, by omega⟩
        have hMj := hpv j (by omega)
        have hkn : ((j + 1 : Nat) : Int) = (j : Int) + 1 := by omega
        rw [hkn] at hk hMk norow
        have hj2 : ((j : Int) + 1).toNat = j + 1 := by omega
        rcases hq' with rfl | rfl | rfl | rfl
        · have hG := badid j rfl
          clear plain norow badid swap hpv
          cases f <;> simp -implicitDefEqProofs (maxSteps := 4000000) (disch := omega) only [go_sem, go_sem_proc, dr, Nat.min_def, ↓reduceIte, stB, hk, hq, hMl, hMk, hMj, hj2, hG, hA, Bool.not_false, Bool.not_true]
        · have hG := norow
          clear plain norow badid swap hpv
          cases f <;> simp -implicitDefEqProofs (maxSteps := 4000000) (disch := omega) only [go_sem, go_sem_proc, dr, Nat.min_def, ↓reduceIte, stB, hk, hq, hMl, hMk, hMj, hj2, hG, hA, Bool.not_false, Bool.not_true]
        · have hG := swap j rfl
          rw [hkn] at hG
          have hsj : (M.set (j + 1) [.int .i64 ((j : Int) + 1), .sl 4 (RG (j + 1)), .int .i64 0, .int .i64 0, .int .i64 0, .int .i64 0])[j]? = some [.int .i64 ((j : Int) + 1), .sl 4 (RG j), .int .i64 0, .int .i64 0, .int .i64 0, .int .i64 0] := by rw [List.getElem?_set, if_neg (by omega)]; exact hMj
          clear plain norow badid swap hpv
          cases f <;> simp -implicitDefEqProofs (maxSteps := 4000000) (disch := omega) only [go_sem, go_sem_proc, dr, Nat.min_def, ↓reduceIte, stB, hk, hq, hMl, hMk, hMj, hj2, hsj, List.length_set, hG, hA, Bool.not_false, Bool.not_true] <;> ((repeat' split) <;> (change _ = true; kernel_rfl))
        · by_cases h64 : 64 < i
          · have hG := plain.1 h64
            clear plain norow badid swap hpv
            cases f <;> simp -implicitDefEqProofs (maxSteps := 4000000) (disch := omega) only [go_sem, go_sem_proc, dr, Nat.min_def, ↓reduceIte, stB, hk, hq, hMl, hMk, hMj, hj2, hG, hA, Bool.not_false, Bool.not_true]
          · obtain ⟨P, ids, S, l1, l2, hz, hG⟩ := plain.2 (by omega)
            have hI := IDs_spec (P := P) (ids := ids) (S := S) (by omega)
            have hL := Live_spec (P := P) (I := ints .i64 ids) (S := S) (by omega) hz
            rw [l2] at hL
            clear plain norow badid swap hpv hz
            cases f <;> simp -implicitDefEqProofs (maxSteps := 4000000) (disch := omega) only [go_sem, go_sem_proc, dr, Nat.min_def, ↓reduceIte, stB, hk, hq, hMl, hMk, hMj, hj2, hG, hI, hL, l1, hA, Bool.not_false, Bool.not_true]
end Go.Proofs.Ytfgbklmmildakaa.D
