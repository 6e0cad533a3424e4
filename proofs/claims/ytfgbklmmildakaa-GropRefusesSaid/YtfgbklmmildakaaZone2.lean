/- From where to where columns go, of all columns. -/
import Derived.Test.YtfgbklmmildakaaZone1
namespace Go.Proofs.Ytfgbklmmildakaa.D
open Go Go.Den
set_option linter.unusedSimpArgs false
set_option linter.unusedVariables false
set_option maxRecDepth 20000
set_option maxHeartbeats 8000000
def rowsPV (rows : List (List Val)) : List (List PV) := rows.map fun r => [.sl 4 (r.map Val.pv)]
def zone0 (k : Int) : Zn := ⟨0, ⟨true, k, 0, none⟩, ⟨true, k, 0, none⟩⟩
def stepZ (i : Nat) (z : Zn) (r : List Val) : Zn := match r[i]? with | some v => takeN z v | none => z
def zoneC (k : Int) (i : Nat) (rows : List (List Val)) : Zn := rows.foldl (stepZ i) (zone0 k)
def zonesN (s : List Col) (rows : List (List Val)) : List Zn := s.mapIdx fun i c => zoneC c.kind i rows
def RR (rows : List (List Val)) : Prop := rows.length ≤ 1000000 ∧ ∀ r ∈ rows, r.length ≤ 1000000 ∧ R1 r
theorem zoneC_nil (k : Int) (i : Nat) : zoneC k i [] = ⟨0, ⟨true, k, 0, none⟩, ⟨true, k, 0, none⟩⟩ := rfl
theorem zoneC_take {k : Int} {i j : Nat} {rows : List (List Val)} {r : List Val} (h : rows.take (j + 1) = rows.take j ++ [r]) : zoneC k i (rows.take (j + 1)) = stepZ i (zoneC k i (rows.take j)) r := by
  unfold zoneC; rw [h, List.foldl_append]; rfl
theorem takeN_nulls (z : Zn) (v : Val) : z.nulls ≤ (takeN z v).nulls ∧ (takeN z v).nulls ≤ z.nulls + 1 := by
  unfold takeN; repeat' split
  all_goals (dsimp only; omega)
theorem stepZ_nulls (i : Nat) (z : Zn) (r : List Val) : z.nulls ≤ (stepZ i z r).nulls ∧ (stepZ i z r).nulls ≤ z.nulls + 1 := by
  unfold stepZ; split
  · exact takeN_nulls _ _
  · omega
theorem zoneC_nulls (k : Int) (i : Nat) (rows : List (List Val)) : 0 ≤ (zoneC k i rows).nulls ∧ (zoneC k i rows).nulls ≤ rows.length := by
  have key : ∀ (rows : List (List Val)) (z : Zn), z.nulls ≤ (rows.foldl (stepZ i) z).nulls ∧ (rows.foldl (stepZ i) z).nulls ≤ z.nulls + rows.length := by
    intro rows
    induction rows with
    | nil => intro z; simp
    | cons r t ih =>
      intro z
      rw [List.foldl_cons]
      have h1 := ih (stepZ i z r)
      have h2 := stepZ_nulls i z r
      simp only [List.length_cons]
      omega
  have := key rows (zone0 k)
  simp only [zone0] at this
  exact ⟨this.1, by have := this.2; unfold zoneC zone0; omega⟩
/-- a leaf of bytes at a loop's head: a row of the call's own, or not -/
def hl (f : Bool) (d : Nat) (o : Option (List Int)) : PV := if f then .h d else bl o
def hm (f : Bool) (d : Nat) (o : Option (List Int)) : List (Nat × Option Ent) := if f then [(d, some ⟨true, .row 5 1 (ints .u8 (bz o))⟩)] else []
def ofSt (R C : List (List PV)) (out : List (List PV)) (nc nr i j : Nat) (z : Zn) (f1 f2 : Bool) : St :=
  ⟨[(1, .sl 1 R), (5, .h 2097472), (6, .int .i64 i), (9, .pb 1048585 0), (13, .sl 3 C), (14, .int .i64 nc), (15, .int .i64 i), (26, .sl 1 R), (27, .int .i64 nr), (28, .int .i64 j)],
   (2097472, some ⟨true, .row 92 9 out⟩) :: (1048585, some ⟨true, .box [.int .i64 z.nulls, .bool z.mn.null, .int .i64 z.mn.kind, .int .i64 z.mn.int, hl f1 2097732 z.mn.bytes, .bool z.mx.null, .int .i64 z.mx.kind, .int .i64 z.mx.int, hl f2 2097736 z.mx.bytes]⟩) :: (hm f1 2097732 z.mn.bytes ++ hm f2 2097736 z.mx.bytes), 1⟩
theorem bl_bz {o : Option (List Int)} (h : o = some (bz o)) : bl o = .sl 1 (ints .u8 (bz o)) := by rw [h]; rfl
theorem Of_spec {s : List Col} {rows : List (List Val)} (hs : s.length ≤ 20) (hr : RR rows) : dw E 29 [.agg [.sl 3 (s.map Col.pv)], .sl 1 (rowsPV rows)] [] = some (.nr 92 9 ((zonesN s rows).map Zn.pv), []) := by
  refine dw_in (fn := Try.f29) rfl body29 (by simp) ?_
  obtain ⟨hr1, hr2⟩ := hr
  simp -implicitDefEqProofs (maxSteps := 4000000) (disch := omega) only [go_sem, go_sem_proc, dr, Nat.min_def, ↓reduceIte]
  refine runs_for (fun i : Nat => (⟨[(1, .sl 1 (rowsPV rows)), (5, .h 2097472), (13, .sl 3 (s.map Col.pv)), (14, .int .i64 s.length), (15, .int .i64 i)], [(2097472, some ⟨true, .row 92 9 (((zonesN s rows).take i).map Zn.pv)⟩)], 1⟩ : St)) s.length ?_ ?_ ?_
  · simp -implicitDefEqProofs (maxSteps := 4000000) (disch := omega) only [go_sem, go_sem_proc, dr, Nat.min_def, ↓reduceIte]
  · intro i hi
    obtain ⟨c, hc, _, _⟩ := take_get hi
    have hz : (zonesN s rows)[i]? = some (zoneC c.kind i rows) := by simp [zonesN, hc]
    have hzt : (zonesN s rows).take (i + 1) = (zonesN s rows).take i ++ [zoneC c.kind i rows] := by
      obtain ⟨h1, h2⟩ := List.getElem?_eq_some_iff.1 hz
      rw [List.take_succ_eq_append_getElem h1, h2]
    have hln : (zonesN s rows).length = s.length := by simp [zonesN]
    have htl : ((zonesN s rows).take i).length = i := by rw [List.length_take, hln]; omega
    simp -implicitDefEqProofs (maxSteps := 4000000) (disch := omega) only [go_sem, go_sem_proc, dr, Nat.min_def, ↓reduceIte, hc, rowsPV]
    refine runs_any (fun s' : Nat × Bool × Bool => ofSt (rowsPV rows) (s.map Col.pv) (((zonesN s rows).take i).map Zn.pv) s.length rows.length i s'.1 (zoneC c.kind i (rows.take s'.1)) s'.2.1 s'.2.2) (fun s' => rows.length - s'.1) (0, false, false)
      (fun s' => s'.1 ≤ rows.length ∧ (s'.2.1 = true → (zoneC c.kind i (rows.take s'.1)).mn.bytes = some (bz (zoneC c.kind i (rows.take s'.1)).mn.bytes)) ∧ (s'.2.2 = true → (zoneC c.kind i (rows.take s'.1)).mx.bytes = some (bz (zoneC c.kind i (rows.take s'.1)).mx.bytes)))
      ⟨Nat.zero_le _, fun h => (by cases h), fun h => (by cases h)⟩ ?_ ?_
    · simp -implicitDefEqProofs (maxSteps := 4000000) (disch := omega) only [go_sem, go_sem_proc, dr, Nat.min_def, ↓reduceIte, ofSt, zoneC_nil, zone0, hl, hm, bl_none, rowsPV]
    · rintro ⟨j, f1, f2⟩ ⟨hj, hf1, hf2⟩
      dsimp only at hj hf1 hf2
      by_cases hlt : j < rows.length
      · obtain ⟨r, hrj, hrm, hrt⟩ := take_get hlt
        obtain ⟨hrl, hR1⟩ := hr2 r hrm
        have hzs := zoneC_take (k := c.kind) (i := i) hrt
        have hzn := zoneC_nulls c.kind i (rows.take j)
        have hzl : (rows.take j).length ≤ 1000000 := by rw [List.length_take]; omega
        by_cases hir : i < r.length
        · obtain ⟨v, hv, hvm, _⟩ := take_get hir
          have hst : stepZ i (zoneC c.kind i (rows.take j)) r = takeN (zoneC c.kind i (rows.take j)) v := by unfold stepZ; rw [hv]
          rw [hst] at hzs
          obtain ⟨g1, g2, hg1, hg2, htk⟩ := take_spec (z := zoneC c.kind i (rows.take j)) (hR1 v hvm) ⟨by omega, by omega⟩
          have hQ : ∀ h1 h2 : Bool, (h1 = true → (takeN (zoneC c.kind i (rows.take j)) v).mn.bytes = some (bz (takeN (zoneC c.kind i (rows.take j)) v).mn.bytes)) → (h2 = true → (takeN (zoneC c.kind i (rows.take j)) v).mx.bytes = some (bz (takeN (zoneC c.kind i (rows.take j)) v).mx.bytes)) →
            (j + 1 ≤ rows.length ∧ (h1 = true → (zoneC c.kind i (rows.take (j + 1))).mn.bytes = some (bz (zoneC c.kind i (rows.take (j + 1))).mn.bytes)) ∧ (h2 = true → (zoneC c.kind i (rows.take (j + 1))).mx.bytes = some (bz (zoneC c.kind i (rows.take (j + 1))).mx.bytes))) := fun h1 h2 a b => by
              rw [hzs]; exact ⟨hlt, a, b⟩
          cases f1 <;> cases f2
          · cases g1 <;> cases g2
            · simp -implicitDefEqProofs (maxSteps := 4000000) (disch := omega) only [go_sem, go_sem_proc, dr, Nat.min_def, ↓reduceIte, ofSt, hl, hm, rowsPV, hrj, hv, htk, rl]
              exact ⟨by ((repeat' split) <;> (change _ = true; kernel_rfl)), (j + 1, false, false), by simp only [hzs]; rfl, hQ _ _ hg1 hg2, by show rows.length - (j + 1) < rows.length - j; omega⟩
            · simp -implicitDefEqProofs (maxSteps := 4000000) (disch := omega) only [go_sem, go_sem_proc, dr, Nat.min_def, ↓reduceIte, ofSt, hl, hm, rowsPV, hrj, hv, htk, rl]
              exact ⟨by ((repeat' split) <;> (change _ = true; kernel_rfl)), (j + 1, false, true), by simp only [hzs]; rfl, hQ _ _ hg1 hg2, by show rows.length - (j + 1) < rows.length - j; omega⟩
            · simp -implicitDefEqProofs (maxSteps := 4000000) (disch := omega) only [go_sem, go_sem_proc, dr, Nat.min_def, ↓reduceIte, ofSt, hl, hm, rowsPV, hrj, hv, htk, rl]
              exact ⟨by ((repeat' split) <;> (change _ = true; kernel_rfl)), (j + 1, true, false), by simp only [hzs]; rfl, hQ _ _ hg1 hg2, by show rows.length - (j + 1) < rows.length - j; omega⟩
            · simp -implicitDefEqProofs (maxSteps := 4000000) (disch := omega) only [go_sem, go_sem_proc, dr, Nat.min_def, ↓reduceIte, ofSt, hl, hm, rowsPV, hrj, hv, htk, rl]
              exact ⟨by ((repeat' split) <;> (change _ = true; kernel_rfl)), (j + 1, true, true), by simp only [hzs]; rfl, hQ _ _ hg1 hg2, by show rows.length - (j + 1) < rows.length - j; omega⟩
          · rw [bl_bz (hf2 rfl)] at htk
            cases g1 <;> cases g2
            · simp -implicitDefEqProofs (maxSteps := 4000000) (disch := omega) only [go_sem, go_sem_proc, dr, Nat.min_def, ↓reduceIte, ofSt, hl, hm, rowsPV, hrj, hv, htk, rl]
              exact ⟨by ((repeat' split) <;> (change _ = true; kernel_rfl)), (j + 1, false, false), by simp only [hzs]; rfl, hQ _ _ hg1 hg2, by show rows.length - (j + 1) < rows.length - j; omega⟩
            · simp -implicitDefEqProofs (maxSteps := 4000000) (disch := omega) only [go_sem, go_sem_proc, dr, Nat.min_def, ↓reduceIte, ofSt, hl, hm, rowsPV, hrj, hv, htk, rl]
              exact ⟨by ((repeat' split) <;> (change _ = true; kernel_rfl)), (j + 1, false, true), by simp only [hzs]; rfl, hQ _ _ hg1 hg2, by show rows.length - (j + 1) < rows.length - j; omega⟩
            · simp -implicitDefEqProofs (maxSteps := 4000000) (disch := omega) only [go_sem, go_sem_proc, dr, Nat.min_def, ↓reduceIte, ofSt, hl, hm, rowsPV, hrj, hv, htk, rl]
              exact ⟨by ((repeat' split) <;> (change _ = true; kernel_rfl)), (j + 1, true, false), by simp only [hzs]; rfl, hQ _ _ hg1 hg2, by show rows.length - (j + 1) < rows.length - j; omega⟩
            · simp -implicitDefEqProofs (maxSteps := 4000000) (disch := omega) only [go_sem, go_sem_proc, dr, Nat.min_def, ↓reduceIte, ofSt, hl, hm, rowsPV, hrj, hv, htk, rl]
              exact ⟨by ((repeat' split) <;> (change _ = true; kernel_rfl)), (j + 1, true, true), by simp only [hzs]; rfl, hQ _ _ hg1 hg2, by show rows.length - (j + 1) < rows.length - j; omega⟩
          · rw [bl_bz (hf1 rfl)] at htk
            cases g1 <;> cases g2
            · simp -implicitDefEqProofs (maxSteps := 4000000) (disch := omega) only [go_sem, go_sem_proc, dr, Nat.min_def, ↓reduceIte, ofSt, hl, hm, rowsPV, hrj, hv, htk, rl]
              exact ⟨by ((repeat' split) <;> (change _ = true; kernel_rfl)), (j + 1, false, false), by simp only [hzs]; rfl, hQ _ _ hg1 hg2, by show rows.length - (j + 1) < rows.length - j; omega⟩
            · simp -implicitDefEqProofs (maxSteps := 4000000) (disch := omega) only [go_sem, go_sem_proc, dr, Nat.min_def, ↓reduceIte, ofSt, hl, hm, rowsPV, hrj, hv, htk, rl]
              exact ⟨by ((repeat' split) <;> (change _ = true; kernel_rfl)), (j + 1, false, true), by simp only [hzs]; rfl, hQ _ _ hg1 hg2, by show rows.length - (j + 1) < rows.length - j; omega⟩
            · simp -implicitDefEqProofs (maxSteps := 4000000) (disch := omega) only [go_sem, go_sem_proc, dr, Nat.min_def, ↓reduceIte, ofSt, hl, hm, rowsPV, hrj, hv, htk, rl]
              exact ⟨by ((repeat' split) <;> (change _ = true; kernel_rfl)), (j + 1, true, false), by simp only [hzs]; rfl, hQ _ _ hg1 hg2, by show rows.length - (j + 1) < rows.length - j; omega⟩
            · simp -implicitDefEqProofs (maxSteps := 4000000) (disch := omega) only [go_sem, go_sem_proc, dr, Nat.min_def, ↓reduceIte, ofSt, hl, hm, rowsPV, hrj, hv, htk, rl]
              exact ⟨by ((repeat' split) <;> (change _ = true; kernel_rfl)), (j + 1, true, true), by simp only [hzs]; rfl, hQ _ _ hg1 hg2, by show rows.length - (j + 1) < rows.length - j; omega⟩
          · rw [bl_bz (hf1 rfl)] at htk
            try rw [bl_bz (hf2 rfl)] at htk
            cases g1 <;> cases g2
            · simp -implicitDefEqProofs (maxSteps := 4000000) (disch := omega) only [go_sem, go_sem_proc, dr, Nat.min_def, ↓reduceIte, ofSt, hl, hm, rowsPV, hrj, hv, htk, rl]
              exact ⟨by ((repeat' split) <;> (change _ = true; kernel_rfl)), (j + 1, false, false), by simp only [hzs]; rfl, hQ _ _ hg1 hg2, by show rows.length - (j + 1) < rows.length - j; omega⟩
            · simp -implicitDefEqProofs (maxSteps := 4000000) (disch := omega) only [go_sem, go_sem_proc, dr, Nat.min_def, ↓reduceIte, ofSt, hl, hm, rowsPV, hrj, hv, htk, rl]
              exact ⟨by ((repeat' split) <;> (change _ = true; kernel_rfl)), (j + 1, false, true), by simp only [hzs]; rfl, hQ _ _ hg1 hg2, by show rows.length - (j + 1) < rows.length - j; omega⟩
            · simp -implicitDefEqProofs (maxSteps := 4000000) (disch := omega) only [go_sem, go_sem_proc, dr, Nat.min_def, ↓reduceIte, ofSt, hl, hm, rowsPV, hrj, hv, htk, rl]
              exact ⟨by ((repeat' split) <;> (change _ = true; kernel_rfl)), (j + 1, true, false), by simp only [hzs]; rfl, hQ _ _ hg1 hg2, by show rows.length - (j + 1) < rows.length - j; omega⟩
            · simp -implicitDefEqProofs (maxSteps := 4000000) (disch := omega) only [go_sem, go_sem_proc, dr, Nat.min_def, ↓reduceIte, ofSt, hl, hm, rowsPV, hrj, hv, htk, rl]
              exact ⟨by ((repeat' split) <;> (change _ = true; kernel_rfl)), (j + 1, true, true), by simp only [hzs]; rfl, hQ _ _ hg1 hg2, by show rows.length - (j + 1) < rows.length - j; omega⟩
        · have hst : stepZ i (zoneC c.kind i (rows.take j)) r = zoneC c.kind i (rows.take j) := by unfold stepZ; rw [List.getElem?_eq_none (by omega)]
          rw [hst] at hzs
          have hir : r.length ≤ i := by omega
          cases f1 <;> cases f2
          · simp -implicitDefEqProofs (maxSteps := 4000000) (disch := omega) only [go_sem, go_sem_proc, dr, Nat.min_def, ↓reduceIte, ofSt, hl, hm, rowsPV, hrj]
            exact ⟨(j + 1, false, false), by simp only [hzs]; rfl, ⟨hlt, by intro h; simp only [hzs]; exact hf1 h, by intro h; simp only [hzs]; exact hf2 h⟩, by show rows.length - (j + 1) < rows.length - j; omega⟩
          · simp -implicitDefEqProofs (maxSteps := 4000000) (disch := omega) only [go_sem, go_sem_proc, dr, Nat.min_def, ↓reduceIte, ofSt, hl, hm, rowsPV, hrj]
            exact ⟨(j + 1, false, true), by simp only [hzs]; rfl, ⟨hlt, by intro h; simp only [hzs]; exact hf1 h, by intro h; simp only [hzs]; exact hf2 h⟩, by show rows.length - (j + 1) < rows.length - j; omega⟩
          · simp -implicitDefEqProofs (maxSteps := 4000000) (disch := omega) only [go_sem, go_sem_proc, dr, Nat.min_def, ↓reduceIte, ofSt, hl, hm, rowsPV, hrj]
            exact ⟨(j + 1, true, false), by simp only [hzs]; rfl, ⟨hlt, by intro h; simp only [hzs]; exact hf1 h, by intro h; simp only [hzs]; exact hf2 h⟩, by show rows.length - (j + 1) < rows.length - j; omega⟩
          · simp -implicitDefEqProofs (maxSteps := 4000000) (disch := omega) only [go_sem, go_sem_proc, dr, Nat.min_def, ↓reduceIte, ofSt, hl, hm, rowsPV, hrj]
            exact ⟨(j + 1, true, true), by simp only [hzs]; rfl, ⟨hlt, by intro h; simp only [hzs]; exact hf1 h, by intro h; simp only [hzs]; exact hf2 h⟩, by show rows.length - (j + 1) < rows.length - j; omega⟩
      · have hj' : j = rows.length := by omega
        subst hj'
        rw [List.take_length] at hf1 hf2 ⊢
        have hzp : ∀ z : Zn, Zn.pv z = [.int .i64 z.nulls, .bool z.mn.null, .int .i64 z.mn.kind, .int .i64 z.mn.int, bl z.mn.bytes, .bool z.mx.null, .int .i64 z.mx.kind, .int .i64 z.mx.int, bl z.mx.bytes] := fun _ => rfl
        have hzp := hzp (zoneC c.kind i rows)
        generalize zoneC c.kind i rows = z at hzt hf1 hf2 hzp ⊢
        cases f1 <;> cases f2
        · simp -implicitDefEqProofs (maxSteps := 4000000) (disch := omega) only [go_sem, go_sem_proc, dr, Nat.min_def, ↓reduceIte, ofSt, hl, hm, rowsPV, hzt, htl, List.map_append, hzp]
        · rw [bl_bz (hf2 rfl)] at hzp
          simp -implicitDefEqProofs (maxSteps := 4000000) (disch := omega) only [go_sem, go_sem_proc, dr, Nat.min_def, ↓reduceIte, ofSt, hl, hm, rowsPV, hzt, htl, List.map_append, hzp]
        · rw [bl_bz (hf1 rfl)] at hzp
          simp -implicitDefEqProofs (maxSteps := 4000000) (disch := omega) only [go_sem, go_sem_proc, dr, Nat.min_def, ↓reduceIte, ofSt, hl, hm, rowsPV, hzt, htl, List.map_append, hzp]
        · rw [bl_bz (hf1 rfl)] at hzp
          try rw [bl_bz (hf2 rfl)] at hzp
          simp -implicitDefEqProofs (maxSteps := 4000000) (disch := omega) only [go_sem, go_sem_proc, dr, Nat.min_def, ↓reduceIte, ofSt, hl, hm, rowsPV, hzt, htl, List.map_append, hzp]
  · have hzl : (zonesN s rows).take s.length = zonesN s rows := by rw [show s.length = (zonesN s rows).length by simp [zonesN], List.take_length]
    simp -implicitDefEqProofs (maxSteps := 4000000) (disch := omega) only [go_sem, go_sem_proc, dr, Nat.min_def, ↓reduceIte, hzl]
end Go.Proofs.Ytfgbklmmildakaa.D
