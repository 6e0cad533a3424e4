/- StamEnds: what the law comes to. -/
import Derived.Test.YtknapjbdgpjdjaaStam3
namespace Go.Proofs.Ytknapjbdgpjdjaa.D
open Go Go.Den
set_option linter.unusedSimpArgs false
set_option linter.unusedVariables false
set_option maxRecDepth 20000
set_option maxHeartbeats 8000000
def mark (W : List Int) (x : Tx) : Tx := if x.id ∈ W then ⟨x.id, 3, x.b, x.e⟩ else x
theorem mark_id (W : List Int) (x : Tx) : (mark W x).id = x.id := by unfold mark; split <;> rfl
theorem stateN_mark (W : List Int) (k : Int) : ∀ L : List Tx, (∃ x, x.id = k ∧ stateN k L = x ∧ stateN k (L.map (mark W)) = mark W x) ∨ (stateN k L = ⟨0, 0, 0, 0⟩ ∧ stateN k (L.map (mark W)) = ⟨0, 0, 0, 0⟩)
  | [] => .inr ⟨rfl, rfl⟩
  | x :: r => by
    rw [List.map_cons, stateN, stateN, mark_id]
    by_cases h : x.id = k
    · rw [if_pos h, if_pos h]; exact .inl ⟨x, h, rfl, rfl⟩
    · rw [if_neg h, if_neg h]; exact stateN_mark W k r
theorem holdsN_mark {W : List Int} {t a at' : Int} {L : List Tx} (h : (holdsN t a at' L).2 = true → t ∈ W) (hW : ∀ x ∈ W, (stateN x L).st = 2) :
    holdsN t a at' (L.map (mark W)) = ((holdsN t a at' L).1, false) := by
  unfold holdsN at h ⊢
  by_cases h0 : t = 0
  · rw [if_pos h0, if_pos h0]
  · rw [if_neg h0] at h
    rw [if_neg h0, if_neg h0]
    dsimp only at h ⊢
    rcases stateN_mark W t L with ⟨x, hx, h1, h2⟩ | ⟨h1, h2⟩
    · rw [h2]
      unfold mark
      by_cases hm : x.id ∈ W
      · rw [if_pos hm]
        have h3 := hW t (hx ▸ hm)
        simp [isN, h3]
        rw [h1]
      · rw [if_neg hm]
        rw [h1] at h ⊢
        by_cases h3 : x.st = 2
        · have : isN x at' = false := by
            cases hi : isN x at' with
            | false => rfl
            | true => exact absurd (h (by simp [hi, h3])) (hx ▸ hm)
          simp [this]
        · simp [h3]
    · rw [h2, h1]
      simp [isN]
/-- who is hung on: of the span, and prepares for a time that has come -/
theorem on_mem {t a T A at' : Int} {L : List Tx} {x : Int} (h : x ∈ (seesN t a T A 0 at' L true).2) : (x = t ∨ x = T) ∧ (stateN x L).st = 2 ∧ (stateN x L).e ≤ at' := by
  have key : ∀ u c : Int, x ∈ onN (holdsN u c at' L).2 u → x = u ∧ (stateN x L).st = 2 ∧ (stateN x L).e ≤ at' := by
    intro u c hu
    unfold holdsN at hu
    by_cases h0 : u = 0
    · rw [if_pos h0] at hu; cases hu
    · rw [if_neg h0] at hu
      dsimp only at hu
      cases hb : (isN (stateN u L) at' && decide ((stateN u L).st = 2)) with
      | false => rw [hb] at hu; cases hu
      | true =>
        rw [hb] at hu
        simp only [onN, List.mem_singleton] at hu
        subst hu
        simp [isN] at hb
        exact ⟨rfl, hb.2, hb.1.2⟩
  unfold seesN endN begN at h
  simp only [not_true_eq_false, and_false, if_false] at h
  split at h
  · cases h
  · rcases List.mem_append.1 h with h | h
    · exact ⟨.inl (key t a h).1, (key t a h).2⟩
    · split at h
      · cases h
      · exact ⟨.inr (key T A h).1, (key T A h).2⟩
theorem ends_plain {t a T A at' : Int} {L : List Tx} {W : List Int} (hW : ∀ x, x ∈ W ↔ x ∈ (seesN t a T A 0 at' L true).2) :
    seesN t a T A 0 at' (L.map (mark W)) true = ((seesN t a T A 0 at' L true).1, []) := by
  have h2 : ∀ x ∈ W, (stateN x L).st = 2 := fun x hx => (on_mem ((hW x).1 hx)).2.1
  by_cases hb : (holdsN t a at' L).1 = false
  · have hf : (holdsN t a at' (L.map (mark W))).1 = false := by
      rw [holdsN_mark (fun hh => ?_) h2]
      · exact hb
      · unfold holdsN at hh hb
        split at hh
        · cases hh
        · rename_i h0
          rw [if_neg h0] at hb
          dsimp only at hh hb
          rw [hb] at hh
          cases hh
    unfold seesN begN
    simp only [not_true_eq_false, and_false, if_false]
    rw [if_pos hb, if_pos hf]
  · have hon : (seesN t a T A 0 at' L true).2 = onN (holdsN t a at' L).2 t ++ onN (endN T A 0 at' L true).2 T := by
      unfold seesN begN
      simp only [not_true_eq_false, and_false, if_false]
      rw [if_neg hb]
    have m1 := holdsN_mark (W := W) (t := t) (a := a) (at' := at') (L := L) (fun hh => (hW t).2 (by rw [hon, hh]; exact List.mem_append_left _ (by simp [onN]))) h2
    unfold seesN
    have e1 : begN t a 0 at' L true = holdsN t a at' L := by simp [begN]
    have e2 : begN t a 0 at' (L.map (mark W)) true = ((holdsN t a at' L).1, false) := by simp [begN, m1]
    rw [e1, e2]
    dsimp only
    rw [if_neg hb, if_neg hb]
    by_cases hn : T = 0 ∧ A = 0
    · simp [endN, hn, onN]
    · have e3 : endN T A 0 at' L true = holdsN T A at' L := by simp [endN, begN, hn]
      rw [e3] at hon
      have m2 := holdsN_mark (W := W) (t := T) (a := A) (at' := at') (L := L) (fun hh => (hW T).2 (by rw [hon, hh]; exact List.mem_append_right _ (by simp [onN]))) h2
      have e4 : endN T A 0 at' (L.map (mark W)) true = ((holdsN T A at' L).1, false) := by simp [endN, begN, hn, m2]
      rw [e3, e4]
      simp [onN]
theorem cp_two (x y : Int) : (∀ z, z ∈ cpZ none (sortZ [x, y]) ↔ z ∈ [x, y]) ∧ (cpZ none (sortZ [x, y])).Nodup := by
  simp only [sortZ, insZ]
  by_cases h : x ≤ y
  · rw [if_pos h]
    by_cases he : x = y
    · subst he; simp [cpZ]
    · have he' : ¬ y = x := fun e => he e.symm
      simp [cpZ, he, he']
  · rw [if_neg h]
    have he : ¬ x = y := by omega
    have he' : ¬ y = x := by omega
    simp [cpZ, he, he']
    intro z
    exact or_comm
theorem cp_one (x : Int) : cpZ none (sortZ [x]) = [x] := rfl
/-- who is hung on, as it is told: nobody, or each once -/
theorem outPV_cases {t a T A at' : Int} {L : List Tx} : ∃ W : List Int, (∀ x, x ∈ W ↔ x ∈ (seesN t a T A 0 at' L true).2) ∧ W.Nodup ∧ W.length ≤ 2 ∧ ((W = [] ∧ outPV (seesN t a T A 0 at' L true).2 = .nils) ∨ outPV (seesN t a T A 0 at' L true).2 = .nr 3 1 (ints .i64 W)) := by
  have h2 : (seesN t a T A 0 at' L true).2 = [] ∨ (∃ x, (seesN t a T A 0 at' L true).2 = [x]) ∨ ∃ x y, (seesN t a T A 0 at' L true).2 = [x, y] := by
    unfold seesN
    split
    · exact .inl rfl
    · dsimp only
      cases (begN t a 0 at' L true).2 <;> cases (endN T A 0 at' L true).2
      · exact .inl rfl
      · exact .inr (.inl ⟨_, rfl⟩)
      · exact .inr (.inl ⟨_, rfl⟩)
      · exact .inr (.inr ⟨_, _, rfl⟩)
  rcases h2 with h | ⟨x, h⟩ | ⟨x, y, h⟩
  · rw [h]; exact ⟨[], fun x => Iff.rfl, List.nodup_nil, by simp, .inl ⟨rfl, rfl⟩⟩
  · rw [h]; exact ⟨[x], fun x => Iff.rfl, by simp, by simp, .inr rfl⟩
  · rw [h]
    obtain ⟨h1, h2⟩ := cp_two x y
    refine ⟨_, h1, h2, ?_, .inr rfl⟩
    simp only [sortZ, insZ]
    split <;> (simp only [cpZ]; split <;> simp <;> split <;> simp)
def marks (W : List Int) (i j : Nat) (L : List Tx) : List Tx := L.mapIdx fun k x => mark (if k < i then W else if k = i then W.take j else []) x
theorem mark_nil (x : Tx) : mark [] x = x := by simp [mark]
theorem marks_len (W : List Int) (i j : Nat) (L : List Tx) : (marks W i j L).length = L.length := by simp [marks]
theorem marks_zero (W : List Int) (L : List Tx) : marks W 0 0 L = L := by
  apply List.ext_getElem?
  intro k
  simp [marks, List.getElem?_mapIdx]
  cases L[k]? <;> simp [mark_nil]
theorem marks_all (W : List Int) (L : List Tx) : marks W L.length 0 L = L.map (mark W) := by
  apply List.ext_getElem?
  intro k
  simp only [marks, List.getElem?_mapIdx, List.getElem?_map]
  cases h : L[k]? with
  | none => rfl
  | some x => simp [(List.getElem?_eq_some_iff.1 h).1]
theorem marks_next (W : List Int) (i : Nat) (L : List Tx) : marks W i W.length L = marks W (i + 1) 0 L := by
  apply List.ext_getElem?
  intro k
  simp only [marks, List.getElem?_mapIdx, List.take_length, List.take_zero]
  cases L[k]? with
  | none => rfl
  | some x =>
    simp only [Option.map_some]
    congr 2
    by_cases h1 : k < i
    · simp [h1, show k < i + 1 by omega]
    · by_cases h2 : k = i
      · subst h2; simp
      · simp [h1, h2, show ¬ k < i + 1 by omega]
theorem marks_at {W : List Int} {i j : Nat} {L : List Tx} {x : Tx} (h : L[i]? = some x) : (marks W i j L)[i]? = some (mark (W.take j) x) := by
  simp [marks, List.getElem?_mapIdx, h]
theorem marks_skip {W : List Int} {i j : Nat} {L : List Tx} {x : Tx} {z : Int} (h : L[i]? = some x) (hz : W[j]? = some z) (hne : ¬ x.id = z) : marks W i (j + 1) L = marks W i j L := by
  apply List.ext_getElem?
  intro k
  simp only [marks, List.getElem?_mapIdx]
  cases hk : L[k]? with
  | none => rfl
  | some y =>
    simp only [Option.map_some]
    congr 1
    by_cases h2 : k = i
    · subst h2
      rw [h] at hk
      cases hk
      simp only [Nat.lt_irrefl, if_false, if_true]
      rw [List.take_add_one, hz]
      unfold mark
      simp [hne]
    · simp [h2]
theorem marks_set {W : List Int} {i j : Nat} {L : List Tx} {x : Tx} (h : L[i]? = some x) (hz : W[j]? = some x.id) : (marks W i j L).set i ⟨x.id, 3, x.b, x.e⟩ = marks W i (j + 1) L := by
  apply List.ext_getElem?
  intro k
  rw [List.getElem?_set]
  by_cases h2 : i = k
  · subst h2
    rw [if_pos rfl, if_pos (by rw [marks_len]; exact (List.getElem?_eq_some_iff.1 h).1), marks_at h]
    rw [List.take_add_one, hz]
    unfold mark
    simp
  · rw [if_neg h2]
    have h2' : ¬ k = i := fun e => h2 e.symm
    simp [marks, List.getElem?_mapIdx, h2']
theorem not_taken {W : List Int} {j : Nat} {z : Int} (hn : W.Nodup) (hz : W[j]? = some z) : ¬ z ∈ W.take j := by
  intro h
  obtain ⟨k, hk⟩ := List.getElem?_of_mem h
  rw [List.getElem?_take] at hk
  split at hk
  · rename_i hlt
    have hj := (List.getElem?_eq_some_iff.1 hz).1
    have := (List.getElem?_inj (by omega) hn).1 (hk.trans hz.symm)
    omega
  · cases hk
def seOn (W : List Int) : Nat → PV
  | 0 => .h 2097792
  | _ + 1 => .sl 1 (ints .i64 W)
def seMem (W : List Int) : Nat → List (Nat × Option Ent)
  | 0 => [(2097792, some ⟨true, .row 3 1 (ints .i64 W)⟩)]
  | _ + 1 => []
theorem seOn_pos (W : List Int) {i : Nat} (h : 0 < i) : seOn W i = .sl 1 (ints .i64 W) := by
  cases i with
  | zero => omega
  | succ i => rfl
theorem seMem_pos (W : List Int) {i : Nat} (h : 0 < i) : seMem W i = [] := by
  cases i with
  | zero => omega
  | succ i => rfl
def seSt (at' t a T A n : Int) (b : Bool) (rows : List Tx) (W : List Int) (i : Nat) : St := ⟨[(2, .int .i64 at'), (7, .h 2097600), (8, .pb 1048584 0), (9, .bool b), (10, seOn W i), (40, .int .i64 n), (41, .int .i64 i)], (2097600, some ⟨true, .row 23 4 (rows.map Tx.pv)⟩) :: (1048584, some ⟨true, .box [.int .i64 t, .int .i64 a, .int .i64 T, .int .i64 A]⟩) :: seMem W i, 1⟩
def siSt (at' t a T A n : Int) (b : Bool) (rows : List Tx) (W : List Int) (i j : Nat) : St := ⟨[(2, .int .i64 at'), (7, .h 2097600), (8, .pb 1048584 0), (9, .bool b), (10, .sl 1 (ints .i64 W)), (11, .int .i64 i), (40, .int .i64 n), (41, .int .i64 i), (44, .sl 1 (ints .i64 W)), (45, .int .i64 W.length), (46, .int .i64 j)], [(2097600, some ⟨true, .row 23 4 (rows.map Tx.pv)⟩), (1048584, some ⟨true, .box [.int .i64 t, .int .i64 a, .int .i64 T, .int .i64 A]⟩)], 1⟩
theorem ints_get {W : List Int} {j : Nat} {z : Int} (h : W[j]? = some z) : (ints .i64 W)[j]? = some [.int .i64 z] := by
  unfold ints
  rw [List.getElem?_map, h]
  rfl
theorem ends_walk {l : List Int} {v y t a T A T' A' : Int} {L : List Tx} {b : Bool} {W : List Int}
    (hT : dw E 12 [.sl 1 (ints .i64 l)] [] = some (.nr 23 4 (L.map Tx.pv), []))
    (hS : dw E 14 [.int .i64 v] [] = some (.agg [.int .i64 t, .int .i64 a], []))
    (hS2 : dw E 14 [.int .i64 (v / 256)] [] = some (.agg [.int .i64 T', .int .i64 A'], []))
    (hv : (v / 65536 % 4 = 0 ∧ T = 0 ∧ A = 0) ∨ (0 < v / 65536 % 4 ∧ T = T' ∧ A = A'))
    (s1 : dw E 10 [.agg [.int .i64 t, .int .i64 a, .int .i64 T, .int .i64 A], .int .i64 0, .int .i64 (y % 16), .sl 4 (L.map Tx.pv)] [] = some (.tup [.bool b, .nr 3 1 (ints .i64 W)], []))
    (s2 : dw E 10 [.agg [.int .i64 t, .int .i64 a, .int .i64 T, .int .i64 A], .int .i64 0, .int .i64 (y % 16), .sl 4 ((L.map (mark W)).map Tx.pv)] [] = some (.tup [.bool b, .nils], []))
    (hl : L.length ≤ 5) (hw : W.length ≤ 2) (hn : W.Nodup)
    (hon : ∀ (i : Nat) (x : Tx), L[i]? = some x → x.id ∈ W → x.st = 2 ∧ x.e ≤ y % 16 ∧ (x.id = t ∨ x.id = T)) :
    dw E 7 [.sl 1 (ints .i64 l), .int .i64 v, .int .i64 y] [] = some (.bool true, []) := by
  have h11 := awake11
  rcases hv with ⟨hv, rfl, rfl⟩ | ⟨hv, rfl, rfl⟩
  · refine dw_in (fn := Try.f7) rfl body7 (by simp) ?_
    simp -implicitDefEqProofs (maxSteps := 4000000) (disch := omega) only [go_sem, go_sem_proc, dr, Nat.min_def, ↓Nat.reduceBEq, ↓Nat.reduceEqDiff, ↓Nat.reduceLT, ↓Nat.reduceLeDiff, ↓Int.reduceEq, ↓Int.reduceLT, ↓Int.reduceLE, ↓reduceIte, hT, hS, hS2, sand15, sand3, hv, s1]
    refine runs_for (fun i => seSt (y % 16) t a 0 0 L.length b (marks W i 0 L) W i) L.length ?_ (fun i hi => ?_) ?_
    · simp -implicitDefEqProofs (maxSteps := 4000000) (disch := omega) only [go_sem, go_sem_proc, dr, Nat.min_def, ↓Nat.reduceBEq, ↓Nat.reduceEqDiff, ↓Nat.reduceLT, ↓Nat.reduceLeDiff, ↓Int.reduceEq, ↓Int.reduceLT, ↓Int.reduceLE, ↓reduceIte, seSt, seOn, seMem, marks_zero]
    · clear hT hS hS2 s1 s2 h11
      obtain ⟨x, hx, _, _⟩ := take_get hi
      rcases Nat.eq_zero_or_pos i with rfl | hp
      · simp -implicitDefEqProofs (maxSteps := 4000000) (disch := omega) only [go_sem, go_sem_proc, dr, Nat.min_def, ↓Nat.reduceBEq, ↓Nat.reduceEqDiff, ↓Nat.reduceLT, ↓Nat.reduceLeDiff, ↓Int.reduceEq, ↓Int.reduceLT, ↓Int.reduceLE, ↓reduceIte, seSt, seOn, seMem]
        refine runs_for (fun j => siSt (y % 16) t a 0 0 L.length b (marks W 0 j L) W 0 j) W.length ?_ (fun j hj => ?_) ?_
        · simp -implicitDefEqProofs (maxSteps := 4000000) (disch := omega) only [go_sem, go_sem_proc, dr, Nat.min_def, ↓Nat.reduceBEq, ↓Nat.reduceEqDiff, ↓Nat.reduceLT, ↓Nat.reduceLeDiff, ↓Int.reduceEq, ↓Int.reduceLT, ↓Int.reduceLE, ↓reduceIte, siSt]
        · obtain ⟨z, hz, _, _⟩ := take_get hj
          have hzz : (ints .i64 W)[j]? = some [.int .i64 z] := ints_get hz
          have hm := marks_at (W := W) (j := j) hx
          have hml := marks_len W 0 j L
          by_cases he : x.id = z
          · subst he
            have hx3 := hon 0 x hx (List.mem_of_getElem? hz)
            rw [mark, if_neg (not_taken hn hz)] at hm
            have hs := marks_set hx hz
            obtain ⟨q1, q2, q3⟩ := hx3
            have hs' : ((marks W 0 j L).map Tx.pv).set 0 [.int .i64 x.id, .int .i64 3, .int .i64 x.b, .int .i64 x.e] = (marks W 0 (j + 1) L).map Tx.pv := by rw [← hs, List.map_set]; rfl
            clear hs hon
            rcases Classical.propComplete (t = x.id) with g1 | g1
            · clear q3
              simp -implicitDefEqProofs (maxSteps := 4000000) (disch := omega) only [go_sem, go_sem_proc, dr, Nat.min_def, ↓Nat.reduceBEq, ↓Nat.reduceEqDiff, ↓Nat.reduceLT, ↓Nat.reduceLeDiff, ↓Int.reduceEq, ↓Int.reduceLT, ↓Int.reduceLE, ↓reduceIte, siSt, hm, hml, hzz, Tx.pv, q1, g1, hs']
              first | done | ((repeat' split) <;> (change _ = true; kernel_rfl))
            · have g2 : (0 = x.id) = True := by
                rcases q3 with q3 | q3
                · exact absurd q3.symm (of_eq_false g1)
                · exact eq_true q3.symm
              clear q3
              simp -implicitDefEqProofs (maxSteps := 4000000) (disch := omega) only [go_sem, go_sem_proc, dr, Nat.min_def, ↓Nat.reduceBEq, ↓Nat.reduceEqDiff, ↓Nat.reduceLT, ↓Nat.reduceLeDiff, ↓Int.reduceEq, ↓Int.reduceLT, ↓Int.reduceLE, ↓reduceIte, siSt, hm, hml, hzz, Tx.pv, q1, g1, g2, hs']
              first | done | ((repeat' split) <;> (change _ = true; kernel_rfl))
          · have hs := marks_skip hx hz he
            have he := eq_false he
            have hid := mark_id (W.take j) x
            generalize mark (W.take j) x = x' at hm hid
            simp -implicitDefEqProofs (maxSteps := 4000000) (disch := omega) only [go_sem, go_sem_proc, dr, Nat.min_def, ↓Nat.reduceBEq, ↓Nat.reduceEqDiff, ↓Nat.reduceLT, ↓Nat.reduceLeDiff, ↓Int.reduceEq, ↓Int.reduceLT, ↓Int.reduceLE, ↓reduceIte, siSt, hm, hml, hzz, Tx.pv, hid, he, hs]
            first | done | ((repeat' split) <;> (change _ = true; kernel_rfl))
        · have hs := marks_next W 0 L
          simp -implicitDefEqProofs (maxSteps := 4000000) (disch := omega) only [go_sem, go_sem_proc, dr, Nat.min_def, ↓Nat.reduceBEq, ↓Nat.reduceEqDiff, ↓Nat.reduceLT, ↓Nat.reduceLeDiff, ↓Int.reduceEq, ↓Int.reduceLT, ↓Int.reduceLE, ↓reduceIte, siSt, hs, seSt, seOn, seMem]
      · have hO := seOn_pos W hp
        have hM := seMem_pos W hp
        simp -implicitDefEqProofs (maxSteps := 4000000) (disch := omega) only [go_sem, go_sem_proc, dr, Nat.min_def, ↓Nat.reduceBEq, ↓Nat.reduceEqDiff, ↓Nat.reduceLT, ↓Nat.reduceLeDiff, ↓Int.reduceEq, ↓Int.reduceLT, ↓Int.reduceLE, ↓reduceIte, seSt, hO, hM]
        clear hp
        refine runs_for (fun j => siSt (y % 16) t a 0 0 L.length b (marks W i j L) W i j) W.length ?_ (fun j hj => ?_) ?_
        · simp -implicitDefEqProofs (maxSteps := 4000000) (disch := omega) only [go_sem, go_sem_proc, dr, Nat.min_def, ↓Nat.reduceBEq, ↓Nat.reduceEqDiff, ↓Nat.reduceLT, ↓Nat.reduceLeDiff, ↓Int.reduceEq, ↓Int.reduceLT, ↓Int.reduceLE, ↓reduceIte, siSt]
        · obtain ⟨z, hz, _, _⟩ := take_get hj
          have hzz : (ints .i64 W)[j]? = some [.int .i64 z] := ints_get hz
          have hm := marks_at (W := W) (j := j) hx
          have hml := marks_len W i j L
          by_cases he : x.id = z
          · subst he
            have hx3 := hon i x hx (List.mem_of_getElem? hz)
            rw [mark, if_neg (not_taken hn hz)] at hm
            have hs := marks_set hx hz
            obtain ⟨q1, q2, q3⟩ := hx3
            have hs' : ((marks W i j L).map Tx.pv).set i [.int .i64 x.id, .int .i64 3, .int .i64 x.b, .int .i64 x.e] = (marks W i (j + 1) L).map Tx.pv := by rw [← hs, List.map_set]; rfl
            clear hs hon
            rcases Classical.propComplete (t = x.id) with g1 | g1
            · clear q3
              simp -implicitDefEqProofs (maxSteps := 4000000) (disch := omega) only [go_sem, go_sem_proc, dr, Nat.min_def, ↓Nat.reduceBEq, ↓Nat.reduceEqDiff, ↓Nat.reduceLT, ↓Nat.reduceLeDiff, ↓Int.reduceEq, ↓Int.reduceLT, ↓Int.reduceLE, ↓reduceIte, siSt, hm, hml, hzz, Tx.pv, q1, g1, hs']
              first | done | ((repeat' split) <;> (change _ = true; kernel_rfl))
            · have g2 : (0 = x.id) = True := by
                rcases q3 with q3 | q3
                · exact absurd q3.symm (of_eq_false g1)
                · exact eq_true q3.symm
              clear q3
              simp -implicitDefEqProofs (maxSteps := 4000000) (disch := omega) only [go_sem, go_sem_proc, dr, Nat.min_def, ↓Nat.reduceBEq, ↓Nat.reduceEqDiff, ↓Nat.reduceLT, ↓Nat.reduceLeDiff, ↓Int.reduceEq, ↓Int.reduceLT, ↓Int.reduceLE, ↓reduceIte, siSt, hm, hml, hzz, Tx.pv, q1, g1, g2, hs']
              first | done | ((repeat' split) <;> (change _ = true; kernel_rfl))
          · have hs := marks_skip hx hz he
            have he := eq_false he
            have hid := mark_id (W.take j) x
            generalize mark (W.take j) x = x' at hm hid
            simp -implicitDefEqProofs (maxSteps := 4000000) (disch := omega) only [go_sem, go_sem_proc, dr, Nat.min_def, ↓Nat.reduceBEq, ↓Nat.reduceEqDiff, ↓Nat.reduceLT, ↓Nat.reduceLeDiff, ↓Int.reduceEq, ↓Int.reduceLT, ↓Int.reduceLE, ↓reduceIte, siSt, hm, hml, hzz, Tx.pv, hid, he, hs]
            first | done | ((repeat' split) <;> (change _ = true; kernel_rfl))
        · have hs := marks_next W i L
          simp -implicitDefEqProofs (maxSteps := 4000000) (disch := omega) only [go_sem, go_sem_proc, dr, Nat.min_def, ↓Nat.reduceBEq, ↓Nat.reduceEqDiff, ↓Nat.reduceLT, ↓Nat.reduceLeDiff, ↓Int.reduceEq, ↓Int.reduceLT, ↓Int.reduceLE, ↓reduceIte, siSt, hs, seSt, seOn, seMem]
    · have hs := marks_all W L
      rcases hL : L.length with _ | n
      · rw [hL] at hs
        simp -implicitDefEqProofs (maxSteps := 4000000) (disch := omega) only [go_sem, go_sem_proc, dr, Nat.min_def, ↓Nat.reduceBEq, ↓Nat.reduceEqDiff, ↓Nat.reduceLT, ↓Nat.reduceLeDiff, ↓Int.reduceEq, ↓Int.reduceLT, ↓Int.reduceLE, ↓reduceIte, seSt, seOn, seMem, hs, sand15, s2, h11]
        first | done | ((repeat' split) <;> (change _ = true; kernel_rfl))
      · rw [hL] at hs
        simp -implicitDefEqProofs (maxSteps := 4000000) (disch := omega) only [go_sem, go_sem_proc, dr, Nat.min_def, ↓Nat.reduceBEq, ↓Nat.reduceEqDiff, ↓Nat.reduceLT, ↓Nat.reduceLeDiff, ↓Int.reduceEq, ↓Int.reduceLT, ↓Int.reduceLE, ↓reduceIte, seSt, seOn, seMem, hs, sand15, s2, h11]
        first | done | ((repeat' split) <;> (change _ = true; kernel_rfl))
  · refine dw_in (fn := Try.f7) rfl body7 (by simp) ?_
    simp -implicitDefEqProofs (maxSteps := 4000000) (disch := omega) only [go_sem, go_sem_proc, dr, Nat.min_def, ↓Nat.reduceBEq, ↓Nat.reduceEqDiff, ↓Nat.reduceLT, ↓Nat.reduceLeDiff, ↓Int.reduceEq, ↓Int.reduceLT, ↓Int.reduceLE, ↓reduceIte, hT, hS, hS2, sand15, sand3, hv, s1]
    refine runs_for (fun i => seSt (y % 16) t a T A L.length b (marks W i 0 L) W i) L.length ?_ (fun i hi => ?_) ?_
    · simp -implicitDefEqProofs (maxSteps := 4000000) (disch := omega) only [go_sem, go_sem_proc, dr, Nat.min_def, ↓Nat.reduceBEq, ↓Nat.reduceEqDiff, ↓Nat.reduceLT, ↓Nat.reduceLeDiff, ↓Int.reduceEq, ↓Int.reduceLT, ↓Int.reduceLE, ↓reduceIte, seSt, seOn, seMem, marks_zero]
    · clear hT hS hS2 s1 s2 h11
      obtain ⟨x, hx, _, _⟩ := take_get hi
      rcases Nat.eq_zero_or_pos i with rfl | hp
      · simp -implicitDefEqProofs (maxSteps := 4000000) (disch := omega) only [go_sem, go_sem_proc, dr, Nat.min_def, ↓Nat.reduceBEq, ↓Nat.reduceEqDiff, ↓Nat.reduceLT, ↓Nat.reduceLeDiff, ↓Int.reduceEq, ↓Int.reduceLT, ↓Int.reduceLE, ↓reduceIte, seSt, seOn, seMem]
        refine runs_for (fun j => siSt (y % 16) t a T A L.length b (marks W 0 j L) W 0 j) W.length ?_ (fun j hj => ?_) ?_
        · simp -implicitDefEqProofs (maxSteps := 4000000) (disch := omega) only [go_sem, go_sem_proc, dr, Nat.min_def, ↓Nat.reduceBEq, ↓Nat.reduceEqDiff, ↓Nat.reduceLT, ↓Nat.reduceLeDiff, ↓Int.reduceEq, ↓Int.reduceLT, ↓Int.reduceLE, ↓reduceIte, siSt]
        · obtain ⟨z, hz, _, _⟩ := take_get hj
          have hzz : (ints .i64 W)[j]? = some [.int .i64 z] := ints_get hz
          have hm := marks_at (W := W) (j := j) hx
          have hml := marks_len W 0 j L
          by_cases he : x.id = z
          · subst he
            have hx3 := hon 0 x hx (List.mem_of_getElem? hz)
            rw [mark, if_neg (not_taken hn hz)] at hm
            have hs := marks_set hx hz
            obtain ⟨q1, q2, q3⟩ := hx3
            have hs' : ((marks W 0 j L).map Tx.pv).set 0 [.int .i64 x.id, .int .i64 3, .int .i64 x.b, .int .i64 x.e] = (marks W 0 (j + 1) L).map Tx.pv := by rw [← hs, List.map_set]; rfl
            clear hs hon
            rcases Classical.propComplete (t = x.id) with g1 | g1
            · clear q3
              simp -implicitDefEqProofs (maxSteps := 4000000) (disch := omega) only [go_sem, go_sem_proc, dr, Nat.min_def, ↓Nat.reduceBEq, ↓Nat.reduceEqDiff, ↓Nat.reduceLT, ↓Nat.reduceLeDiff, ↓Int.reduceEq, ↓Int.reduceLT, ↓Int.reduceLE, ↓reduceIte, siSt, hm, hml, hzz, Tx.pv, q1, g1, hs']
              first | done | ((repeat' split) <;> (change _ = true; kernel_rfl))
            · have g2 : (T = x.id) = True := by
                rcases q3 with q3 | q3
                · exact absurd q3.symm (of_eq_false g1)
                · exact eq_true q3.symm
              clear q3
              simp -implicitDefEqProofs (maxSteps := 4000000) (disch := omega) only [go_sem, go_sem_proc, dr, Nat.min_def, ↓Nat.reduceBEq, ↓Nat.reduceEqDiff, ↓Nat.reduceLT, ↓Nat.reduceLeDiff, ↓Int.reduceEq, ↓Int.reduceLT, ↓Int.reduceLE, ↓reduceIte, siSt, hm, hml, hzz, Tx.pv, q1, g1, g2, hs']
              first | done | ((repeat' split) <;> (change _ = true; kernel_rfl))
          · have hs := marks_skip hx hz he
            have he := eq_false he
            have hid := mark_id (W.take j) x
            generalize mark (W.take j) x = x' at hm hid
            simp -implicitDefEqProofs (maxSteps := 4000000) (disch := omega) only [go_sem, go_sem_proc, dr, Nat.min_def, ↓Nat.reduceBEq, ↓Nat.reduceEqDiff, ↓Nat.reduceLT, ↓Nat.reduceLeDiff, ↓Int.reduceEq, ↓Int.reduceLT, ↓Int.reduceLE, ↓reduceIte, siSt, hm, hml, hzz, Tx.pv, hid, he, hs]
            first | done | ((repeat' split) <;> (change _ = true; kernel_rfl))
        · have hs := marks_next W 0 L
          simp -implicitDefEqProofs (maxSteps := 4000000) (disch := omega) only [go_sem, go_sem_proc, dr, Nat.min_def, ↓Nat.reduceBEq, ↓Nat.reduceEqDiff, ↓Nat.reduceLT, ↓Nat.reduceLeDiff, ↓Int.reduceEq, ↓Int.reduceLT, ↓Int.reduceLE, ↓reduceIte, siSt, hs, seSt, seOn, seMem]
      · have hO := seOn_pos W hp
        have hM := seMem_pos W hp
        simp -implicitDefEqProofs (maxSteps := 4000000) (disch := omega) only [go_sem, go_sem_proc, dr, Nat.min_def, ↓Nat.reduceBEq, ↓Nat.reduceEqDiff, ↓Nat.reduceLT, ↓Nat.reduceLeDiff, ↓Int.reduceEq, ↓Int.reduceLT, ↓Int.reduceLE, ↓reduceIte, seSt, hO, hM]
        clear hp
        refine runs_for (fun j => siSt (y % 16) t a T A L.length b (marks W i j L) W i j) W.length ?_ (fun j hj => ?_) ?_
        · simp -implicitDefEqProofs (maxSteps := 4000000) (disch := omega) only [go_sem, go_sem_proc, dr, Nat.min_def, ↓Nat.reduceBEq, ↓Nat.reduceEqDiff, ↓Nat.reduceLT, ↓Nat.reduceLeDiff, ↓Int.reduceEq, ↓Int.reduceLT, ↓Int.reduceLE, ↓reduceIte, siSt]
        · obtain ⟨z, hz, _, _⟩ := take_get hj
          have hzz : (ints .i64 W)[j]? = some [.int .i64 z] := ints_get hz
          have hm := marks_at (W := W) (j := j) hx
          have hml := marks_len W i j L
          by_cases he : x.id = z
          · subst he
            have hx3 := hon i x hx (List.mem_of_getElem? hz)
            rw [mark, if_neg (not_taken hn hz)] at hm
            have hs := marks_set hx hz
            obtain ⟨q1, q2, q3⟩ := hx3
            have hs' : ((marks W i j L).map Tx.pv).set i [.int .i64 x.id, .int .i64 3, .int .i64 x.b, .int .i64 x.e] = (marks W i (j + 1) L).map Tx.pv := by rw [← hs, List.map_set]; rfl
            clear hs hon
            rcases Classical.propComplete (t = x.id) with g1 | g1
            · clear q3
              simp -implicitDefEqProofs (maxSteps := 4000000) (disch := omega) only [go_sem, go_sem_proc, dr, Nat.min_def, ↓Nat.reduceBEq, ↓Nat.reduceEqDiff, ↓Nat.reduceLT, ↓Nat.reduceLeDiff, ↓Int.reduceEq, ↓Int.reduceLT, ↓Int.reduceLE, ↓reduceIte, siSt, hm, hml, hzz, Tx.pv, q1, g1, hs']
              first | done | ((repeat' split) <;> (change _ = true; kernel_rfl))
            · have g2 : (T = x.id) = True := by
                rcases q3 with q3 | q3
                · exact absurd q3.symm (of_eq_false g1)
                · exact eq_true q3.symm
              clear q3
              simp -implicitDefEqProofs (maxSteps := 4000000) (disch := omega) only [go_sem, go_sem_proc, dr, Nat.min_def, ↓Nat.reduceBEq, ↓Nat.reduceEqDiff, ↓Nat.reduceLT, ↓Nat.reduceLeDiff, ↓Int.reduceEq, ↓Int.reduceLT, ↓Int.reduceLE, ↓reduceIte, siSt, hm, hml, hzz, Tx.pv, q1, g1, g2, hs']
              first | done | ((repeat' split) <;> (change _ = true; kernel_rfl))
          · have hs := marks_skip hx hz he
            have he := eq_false he
            have hid := mark_id (W.take j) x
            generalize mark (W.take j) x = x' at hm hid
            simp -implicitDefEqProofs (maxSteps := 4000000) (disch := omega) only [go_sem, go_sem_proc, dr, Nat.min_def, ↓Nat.reduceBEq, ↓Nat.reduceEqDiff, ↓Nat.reduceLT, ↓Nat.reduceLeDiff, ↓Int.reduceEq, ↓Int.reduceLT, ↓Int.reduceLE, ↓reduceIte, siSt, hm, hml, hzz, Tx.pv, hid, he, hs]
            first | done | ((repeat' split) <;> (change _ = true; kernel_rfl))
        · have hs := marks_next W i L
          simp -implicitDefEqProofs (maxSteps := 4000000) (disch := omega) only [go_sem, go_sem_proc, dr, Nat.min_def, ↓Nat.reduceBEq, ↓Nat.reduceEqDiff, ↓Nat.reduceLT, ↓Nat.reduceLeDiff, ↓Int.reduceEq, ↓Int.reduceLT, ↓Int.reduceLE, ↓reduceIte, siSt, hs, seSt, seOn, seMem]
    · have hs := marks_all W L
      rcases hL : L.length with _ | n
      · rw [hL] at hs
        simp -implicitDefEqProofs (maxSteps := 4000000) (disch := omega) only [go_sem, go_sem_proc, dr, Nat.min_def, ↓Nat.reduceBEq, ↓Nat.reduceEqDiff, ↓Nat.reduceLT, ↓Nat.reduceLeDiff, ↓Int.reduceEq, ↓Int.reduceLT, ↓Int.reduceLE, ↓reduceIte, seSt, seOn, seMem, hs, sand15, s2, h11]
        first | done | ((repeat' split) <;> (change _ = true; kernel_rfl))
      · rw [hL] at hs
        simp -implicitDefEqProofs (maxSteps := 4000000) (disch := omega) only [go_sem, go_sem_proc, dr, Nat.min_def, ↓Nat.reduceBEq, ↓Nat.reduceEqDiff, ↓Nat.reduceLT, ↓Nat.reduceLeDiff, ↓Int.reduceEq, ↓Int.reduceLT, ↓Int.reduceLE, ↓reduceIte, seSt, seOn, seMem, hs, sand15, s2, h11]
        first | done | ((repeat' split) <;> (change _ = true; kernel_rfl))
def seSt0 (at' t a T A n : Int) (b : Bool) (rows : List (List PV)) (i : Nat) : St := ⟨[(2, .int .i64 at'), (7, .h 2097600), (8, .pb 1048584 0), (9, .bool b), (10, .nils), (40, .int .i64 n), (41, .int .i64 i)], [(2097600, some ⟨true, .row 23 4 rows⟩), (1048584, some ⟨true, .box [.int .i64 t, .int .i64 a, .int .i64 T, .int .i64 A]⟩)], 1⟩
def siSt0 (at' t a T A n : Int) (b : Bool) (rows : List (List PV)) (i j : Nat) : St := ⟨[(2, .int .i64 at'), (7, .h 2097600), (8, .pb 1048584 0), (9, .bool b), (10, .nils), (11, .int .i64 i), (40, .int .i64 n), (41, .int .i64 i), (44, .nils), (45, .int .i64 0), (46, .int .i64 j)], [(2097600, some ⟨true, .row 23 4 rows⟩), (1048584, some ⟨true, .box [.int .i64 t, .int .i64 a, .int .i64 T, .int .i64 A]⟩)], 1⟩
theorem ends_walk0 {l : List Int} {v y t a T A T' A' : Int} {rows : List (List PV)} {b : Bool}
    (hT : dw E 12 [.sl 1 (ints .i64 l)] [] = some (.nr 23 4 rows, []))
    (hS : dw E 14 [.int .i64 v] [] = some (.agg [.int .i64 t, .int .i64 a], []))
    (hS2 : dw E 14 [.int .i64 (v / 256)] [] = some (.agg [.int .i64 T', .int .i64 A'], []))
    (hv : (v / 65536 % 4 = 0 ∧ T = 0 ∧ A = 0) ∨ (0 < v / 65536 % 4 ∧ T = T' ∧ A = A'))
    (s1 : dw E 10 [.agg [.int .i64 t, .int .i64 a, .int .i64 T, .int .i64 A], .int .i64 0, .int .i64 (y % 16), .sl 4 rows] [] = some (.tup [.bool b, .nils], []))
    (hl : rows.length ≤ 5) :
    dw E 7 [.sl 1 (ints .i64 l), .int .i64 v, .int .i64 y] [] = some (.bool true, []) := by
  have h11 := awake11
  rcases hv with ⟨hv, rfl, rfl⟩ | ⟨hv, rfl, rfl⟩
  · refine dw_in (fn := Try.f7) rfl body7 (by simp) ?_
    simp -implicitDefEqProofs (maxSteps := 4000000) (disch := omega) only [go_sem, go_sem_proc, dr, Nat.min_def, ↓Nat.reduceBEq, ↓Nat.reduceEqDiff, ↓Nat.reduceLT, ↓Nat.reduceLeDiff, ↓Int.reduceEq, ↓Int.reduceLT, ↓Int.reduceLE, ↓reduceIte, hT, hS, hS2, sand15, sand3, hv, s1]
    refine runs_for (seSt0 (y % 16) t a 0 0 rows.length b rows) rows.length ?_ (fun i hi => ?_) ?_
    · simp -implicitDefEqProofs (maxSteps := 4000000) (disch := omega) only [go_sem, go_sem_proc, dr, Nat.min_def, ↓Nat.reduceBEq, ↓Nat.reduceEqDiff, ↓Nat.reduceLT, ↓Nat.reduceLeDiff, ↓Int.reduceEq, ↓Int.reduceLT, ↓Int.reduceLE, ↓reduceIte, seSt0]
    · clear hT hS hS2 s1 h11
      simp -implicitDefEqProofs (maxSteps := 4000000) (disch := omega) only [go_sem, go_sem_proc, dr, Nat.min_def, ↓Nat.reduceBEq, ↓Nat.reduceEqDiff, ↓Nat.reduceLT, ↓Nat.reduceLeDiff, ↓Int.reduceEq, ↓Int.reduceLT, ↓Int.reduceLE, ↓reduceIte, seSt0]
      refine runs_for (siSt0 (y % 16) t a 0 0 rows.length b rows i) 0 ?_ (fun j hj => absurd hj (Nat.not_lt_zero j)) ?_
      · simp -implicitDefEqProofs (maxSteps := 4000000) (disch := omega) only [go_sem, go_sem_proc, dr, Nat.min_def, ↓Nat.reduceBEq, ↓Nat.reduceEqDiff, ↓Nat.reduceLT, ↓Nat.reduceLeDiff, ↓Int.reduceEq, ↓Int.reduceLT, ↓Int.reduceLE, ↓reduceIte, siSt0]
      · simp -implicitDefEqProofs (maxSteps := 4000000) (disch := omega) only [go_sem, go_sem_proc, dr, Nat.min_def, ↓Nat.reduceBEq, ↓Nat.reduceEqDiff, ↓Nat.reduceLT, ↓Nat.reduceLeDiff, ↓Int.reduceEq, ↓Int.reduceLT, ↓Int.reduceLE, ↓reduceIte, siSt0, seSt0]
    · simp -implicitDefEqProofs (maxSteps := 4000000) (disch := omega) only [go_sem, go_sem_proc, dr, Nat.min_def, ↓Nat.reduceBEq, ↓Nat.reduceEqDiff, ↓Nat.reduceLT, ↓Nat.reduceLeDiff, ↓Int.reduceEq, ↓Int.reduceLT, ↓Int.reduceLE, ↓reduceIte, seSt0, sand15, s1, h11]
      first | done | ((repeat' split) <;> (change _ = true; kernel_rfl))
  · refine dw_in (fn := Try.f7) rfl body7 (by simp) ?_
    simp -implicitDefEqProofs (maxSteps := 4000000) (disch := omega) only [go_sem, go_sem_proc, dr, Nat.min_def, ↓Nat.reduceBEq, ↓Nat.reduceEqDiff, ↓Nat.reduceLT, ↓Nat.reduceLeDiff, ↓Int.reduceEq, ↓Int.reduceLT, ↓Int.reduceLE, ↓reduceIte, hT, hS, hS2, sand15, sand3, hv, s1]
    refine runs_for (seSt0 (y % 16) t a T A rows.length b rows) rows.length ?_ (fun i hi => ?_) ?_
    · simp -implicitDefEqProofs (maxSteps := 4000000) (disch := omega) only [go_sem, go_sem_proc, dr, Nat.min_def, ↓Nat.reduceBEq, ↓Nat.reduceEqDiff, ↓Nat.reduceLT, ↓Nat.reduceLeDiff, ↓Int.reduceEq, ↓Int.reduceLT, ↓Int.reduceLE, ↓reduceIte, seSt0]
    · clear hT hS hS2 s1 h11
      simp -implicitDefEqProofs (maxSteps := 4000000) (disch := omega) only [go_sem, go_sem_proc, dr, Nat.min_def, ↓Nat.reduceBEq, ↓Nat.reduceEqDiff, ↓Nat.reduceLT, ↓Nat.reduceLeDiff, ↓Int.reduceEq, ↓Int.reduceLT, ↓Int.reduceLE, ↓reduceIte, seSt0]
      refine runs_for (siSt0 (y % 16) t a T A rows.length b rows i) 0 ?_ (fun j hj => absurd hj (Nat.not_lt_zero j)) ?_
      · simp -implicitDefEqProofs (maxSteps := 4000000) (disch := omega) only [go_sem, go_sem_proc, dr, Nat.min_def, ↓Nat.reduceBEq, ↓Nat.reduceEqDiff, ↓Nat.reduceLT, ↓Nat.reduceLeDiff, ↓Int.reduceEq, ↓Int.reduceLT, ↓Int.reduceLE, ↓reduceIte, siSt0]
      · simp -implicitDefEqProofs (maxSteps := 4000000) (disch := omega) only [go_sem, go_sem_proc, dr, Nat.min_def, ↓Nat.reduceBEq, ↓Nat.reduceEqDiff, ↓Nat.reduceLT, ↓Nat.reduceLeDiff, ↓Int.reduceEq, ↓Int.reduceLT, ↓Int.reduceLE, ↓reduceIte, siSt0, seSt0]
    · simp -implicitDefEqProofs (maxSteps := 4000000) (disch := omega) only [go_sem, go_sem_proc, dr, Nat.min_def, ↓Nat.reduceBEq, ↓Nat.reduceEqDiff, ↓Nat.reduceLT, ↓Nat.reduceLeDiff, ↓Int.reduceEq, ↓Int.reduceLT, ↓Int.reduceLE, ↓reduceIte, seSt0, sand15, s1, h11]
      first | done | ((repeat' split) <;> (change _ = true; kernel_rfl))
theorem stateN_at {L : List Tx} (hd : ∀ (i j : Nat) (x y : Tx), L[i]? = some x → L[j]? = some y → x.id = y.id → i = j) {i : Nat} {x : Tx} (h : L[i]? = some x) : stateN x.id L = x := by
  rcases idxK_cases x.id L 0 with ⟨h1, h2⟩ | ⟨j, y, h1, _, h3, h4⟩
  · exfalso
    have : ∀ (L : List Tx) (i k : Nat), L[i]? = some x → idxK x.id L k ≠ -1 := by
      intro L
      induction L with
      | nil => intro i k h; simp at h
      | cons y r ih =>
        intro i k h
        unfold idxK
        split
        · omega
        · cases i with
          | zero => simp at h; subst h; contradiction
          | succ i => exact ih i (k + 1) (by simpa using h)
    exact this L i 0 h h1
  · have := hd j i y x h1 h h4
    subst this
    rw [h] at h1
    cases h1
    exact h3
theorem txsN_dist (l : List Int) : ∀ n (i j : Nat) (x y : Tx), (txsN l n)[i]? = some x → (txsN l n)[j]? = some y → x.id = y.id → i = j := by
  intro n
  induction n with
  | zero => intro i j x y h; simp [txsN] at h
  | succ n ih =>
    intro i j x y h1 h2 h3
    cases hm : l[n]? with
    | none =>
      rw [txsN, hm] at h1 h2
      dsimp only at h1 h2
      rw [List.append_nil] at h1 h2
      exact ih i j x y h1 h2 h3
    | some m =>
      rw [txsN, hm] at h1 h2
      dsimp only at h1 h2
      by_cases h8 : m % 8 = 0
      · rw [if_pos h8, List.append_nil] at h1 h2
        exact ih i j x y h1 h2 h3
      · rw [if_neg h8] at h1 h2
        have hid : ∀ (k : Nat) (z : Tx), (txsN l n ++ [tx n m])[k]? = some z → (k < (txsN l n).length ∧ (txsN l n)[k]? = some z ∧ z.id ≤ n) ∨ (k = (txsN l n).length ∧ z.id = n + 1) := by
          intro k z hk
          by_cases hlt : k < (txsN l n).length
          · rw [List.getElem?_append_left hlt] at hk
            exact .inl ⟨hlt, hk, (txsN_id l n z (List.mem_of_getElem? hk)).2⟩
          · rw [List.getElem?_append_right (by omega)] at hk
            have : k - (txsN l n).length = 0 := by
              cases hq : k - (txsN l n).length with
              | zero => rfl
              | succ q => rw [hq] at hk; simp at hk
            rw [this] at hk
            simp at hk
            subst hk
            exact .inr ⟨by omega, rfl⟩
        rcases hid i x h1 with ⟨a1, a2, a3⟩ | ⟨a1, a2⟩ <;> rcases hid j y h2 with ⟨b1, b2, b3⟩ | ⟨b1, b2⟩
        · exact ih i j x y a2 b2 h3
        · omega
        · omega
        · omega
theorem StamEnds_spec {l : List Int} {v y : Int} : dw E 7 [.sl 1 (ints .i64 l), .int .i64 v, .int .i64 y] [] = some (.bool true, []) := by
  have hT : dw E 12 [.sl 1 (ints .i64 l)] [] = some (.nr 23 4 ((txsL l).map Tx.pv), []) := Txns_spec
  have hI := txsL_is l
  have hl : (txsL l).length ≤ 5 := Nat.le_trans (txsN_len l _) (by omega)
  have key : ∀ T A : Int, ((v / 65536 % 4 = 0 ∧ T = 0 ∧ A = 0) ∨ (0 < v / 65536 % 4 ∧ T = stampT (v / 256) ∧ A = stampA (v / 256))) → dw E 7 [.sl 1 (ints .i64 l), .int .i64 v, .int .i64 y] [] = some (.bool true, []) := by
    intro T A hv
    have s1 := Sees_spec (bt := stampT v) (ba := stampA v) (et := T) (ea := A) (me := 0) (at' := y % 16) hI
    obtain ⟨W, hW, hn, hw, ho⟩ := outPV_cases (t := stampT v) (a := stampA v) (T := T) (A := A) (at' := y % 16) (L := txsL l)
    rcases ho with ⟨rfl, ho⟩ | ho
    · rw [ho] at s1
      exact ends_walk0 hT Stamp_spec Stamp_spec hv s1 (by simpa using hl)
    · rw [ho] at s1
      have hM : IsTx (.sl 4 (((txsL l).map (mark W)).map Tx.pv)) ((txsL l).map (mark W)) := ⟨.inl rfl, by simp; omega⟩
      have s2 := Sees_spec (bt := stampT v) (ba := stampA v) (et := T) (ea := A) (me := 0) (at' := y % 16) hM
      rw [ends_plain hW] at s2
      refine ends_walk hT Stamp_spec Stamp_spec hv s1 s2 hl hw hn ?_
      intro i x hx hm
      obtain ⟨h1, h2, h3⟩ := on_mem ((hW x.id).1 hm)
      rw [stateN_at (L := txsL l) (txsN_dist l _) hx] at h2 h3
      exact ⟨h2, h3, h1⟩
  rcases (show v / 65536 % 4 = 0 ∨ 0 < v / 65536 % 4 by omega) with hv | hv
  · exact key 0 0 (.inl ⟨hv, rfl, rfl⟩)
  · exact key _ _ (.inr ⟨hv, rfl, rfl⟩)
end Go.Proofs.Ytknapjbdgpjdjaa.D
