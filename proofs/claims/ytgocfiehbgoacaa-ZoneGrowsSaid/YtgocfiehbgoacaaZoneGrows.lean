/- ZoneGrows: what the law comes to. -/
import Derived.Test.YtgocfiehbgoacaaZone5
namespace Go.Proofs.Ytgocfiehbgoacaa.D
open Go Go.Den
set_option linter.unusedSimpArgs false
set_option linter.unusedVariables false
set_option maxRecDepth 20000
set_option maxHeartbeats 8000000
/-- how many have none at a place -/
def nullAt (i : Nat) (r : List Val) : Bool := match r[i]? with | some v => v.null | none => false
theorem zone_nulls {i : Nat} : ∀ (rows : List (List Val)) (z : Zn), (rows.foldl (stepZ i) z).nulls = z.nulls + (rows.filter (nullAt i)).length := by
  intro rows
  induction rows with
  | nil => intro z; simp
  | cons r t ih =>
    intro z
    rw [List.foldl_cons, ih, List.filter_cons]
    cases hr : r[i]? with
    | none =>
      have h1 : stepZ i z r = z := by unfold stepZ; rw [hr]
      have h2 : nullAt i r = false := by unfold nullAt; rw [hr]
      rw [h1, h2]; rfl
    | some v =>
      have h1 : stepZ i z r = takeN z v := by unfold stepZ; rw [hr]
      have h2 : nullAt i r = v.null := by unfold nullAt; rw [hr]
      rw [h1, h2]
      show (takeN z v).nulls + ((t.filter (nullAt i)).length : Int) = z.nulls + ((if v.null = true then r :: t.filter (nullAt i) else t.filter (nullAt i)).length : Int)
      by_cases hn : v.null = true
      · have e : (takeN z v).nulls = z.nulls + 1 := by unfold takeN; rw [if_pos hn]
        rw [e, if_pos hn, List.length_cons]; omega
      · have e : (takeN z v).nulls = z.nulls := by unfold takeN; rw [if_neg hn]; split <;> rfl
        rw [e, if_neg hn]
theorem zone_parts (k : Int) (i j : Nat) (rows : List (List Val)) : (zoneC k i rows).nulls = (zoneC k i (rows.take j)).nulls + (zoneC k i (rows.drop j)).nulls := by
  unfold zoneC
  rw [zone_nulls, zone_nulls, zone_nulls]
  conv => lhs; rw [← List.take_append_drop j rows]
  rw [List.filter_append, List.length_append]
  simp [zone0]
/-- what a zone goes from and to is some row's -/
def Got (i : Nat) (rows : List (List Val)) (w : Val) : Prop := w.null = false → ∃ r ∈ rows, ∃ v, r[i]? = some v ∧ v.null = false ∧ w = stv v
theorem zone_got {i : Nat} : ∀ (done rest : List (List Val)) (z : Zn), Got i done z.mn ∧ Got i done z.mx → Got i (done ++ rest) (rest.foldl (stepZ i) z).mn ∧ Got i (done ++ rest) (rest.foldl (stepZ i) z).mx := by
  intro done rest
  induction rest generalizing done with
  | nil => intro z h; simpa using h
  | cons r t ih =>
    intro z h
    rw [List.foldl_cons, show done ++ r :: t = (done ++ [r]) ++ t by simp]
    refine ih (done ++ [r]) (stepZ i z r) ?_
    have up : ∀ w, Got i done w → Got i (done ++ [r]) w := fun w h hn => by
      obtain ⟨x, hx, h⟩ := h hn
      exact ⟨x, List.mem_append_left _ hx, h⟩
    unfold stepZ
    split
    · rename_i v hv
      have me : v.null = false → Got i (done ++ [r]) (stv v) := fun hn _ => ⟨r, by simp, v, hv, hn, rfl⟩
      unfold takeN
      split
      · exact ⟨up _ h.1, up _ h.2⟩
      · rename_i hn
        have hn : v.null = false := by simpa using hn
        split
        · exact ⟨me hn, me hn⟩
        · refine ⟨?_, ?_⟩
          · dsimp only; split
            · exact me hn
            · exact up _ h.1
          · dsimp only; split
            · exact me hn
            · exact up _ h.2
    · exact ⟨up _ h.1, up _ h.2⟩
theorem zoneC_got (k : Int) (i : Nat) (rows : List (List Val)) : Got i rows (zoneC k i rows).mn ∧ Got i rows (zoneC k i rows).mx := by
  have := zone_got (i := i) [] rows (zone0 k) ⟨fun h => (by cases h), fun h => (by cases h)⟩
  rw [List.nil_append] at this
  exact this
structure Cov (z c : Zn) : Prop where
  nl : z.mn.null = false → c.mn.null = false
  lo : z.mn.null = false → cmpV c.mn z.mn ≤ 0
  hi : z.mn.null = false → 0 ≤ cmpV c.mx z.mx
structure At3 (i : Nat) (X : List (List Val)) (a b c : Zn) : Prop where
  sum : c.nulls = a.nulls + b.nulls
  a0 : 0 ≤ a.nulls ∧ a.nulls ≤ 40
  b0 : 0 ≤ b.nulls ∧ b.nulls ≤ 40
  ca : Cov a c
  cb : Cov b c
  rows : ∀ r ∈ X, ∃ v, r[i]? = some v ∧ (v.null = false → 0 ≤ cmpV v c.mn ∧ cmpV v c.mx ≤ 0)
theorem part_cov {K k : Int} {i : Nat} {P X : List (List Val)} (hP : ∀ r ∈ P, r ∈ X) (hX : ZI K i X (zoneC k i X)) (hkP : ∀ r ∈ P, ∀ v, r[i]? = some v → v.kind = K) : Cov (zoneC k i P) (zoneC k i X) := by
  obtain ⟨g1, g2⟩ := zoneC_got k i P
  have ZP := zoneC_inv (k := k) hkP
  refine ⟨fun h => ?_, fun h => ?_, fun h => ?_⟩
  · obtain ⟨r, hr, v, hv, hn, _⟩ := g1 h
    exact (hX.held r (hP r hr) v hv hn).n1
  · obtain ⟨r, hr, v, hv, hn, e⟩ := g1 h
    rw [e]
    exact (hX.held r (hP r hr) v hv hn).lo
  · obtain ⟨r, hr, v, hv, hn, e⟩ := g2 (ZP.kz h).1
    rw [e]
    exact (hX.held r (hP r hr) v hv hn).hi
theorem at3 {s : List Col} {X : List (List Val)} (hk : KR s X) (hl : X.length ≤ 40) (j : Nat) {i : Nat} (hi : i < s.length) : ∃ a b c, (zonesN s (X.take j))[i]? = some a ∧ (zonesN s (X.drop j))[i]? = some b ∧ (zonesN s X)[i]? = some c ∧ At3 i X a b c := by
  obtain ⟨col, hcol, _, _⟩ := take_get hi
  have hkX : ∀ r ∈ X, ∀ v, r[i]? = some v → v.kind = col.kind := fun r hr v hv => (hk r hr).2 i col v hcol hv
  have hkt : ∀ r ∈ X.take j, ∀ v, r[i]? = some v → v.kind = col.kind := fun r hr => hkX r (List.mem_of_mem_take hr)
  have hkd : ∀ r ∈ X.drop j, ∀ v, r[i]? = some v → v.kind = col.kind := fun r hr => hkX r (List.mem_of_mem_drop hr)
  have ZX := zoneC_inv (k := col.kind) hkX
  have Zt := zoneC_inv (k := col.kind) hkt
  have Zd := zoneC_inv (k := col.kind) hkd
  refine ⟨zoneC col.kind i (X.take j), zoneC col.kind i (X.drop j), zoneC col.kind i X, by simp [zonesN, hcol], by simp [zonesN, hcol], by simp [zonesN, hcol], ?_⟩
  refine ⟨zone_parts _ _ _ _, ⟨Zt.pos, ?_⟩, ⟨Zd.pos, ?_⟩, part_cov (fun r hr => List.mem_of_mem_take hr) ZX hkt, part_cov (fun r hr => List.mem_of_mem_drop hr) ZX hkd, fun r hr => ?_⟩
  · have := Zt.le; rw [List.length_take] at this; omega
  · have := Zd.le; rw [List.length_drop] at this; omega
  · obtain ⟨v, hv, _, _⟩ := take_get (show i < r.length by rw [(hk r hr).1]; exact hi)
    refine ⟨v, hv, fun hn => ?_⟩
    have H := ZX.held r hr v hv hn
    rw [cmpV_anti (a := (zoneC col.kind i X).mn) (b := v) (by rw [H.k1, hkX r hr v hv]), cmpV_anti (a := (zoneC col.kind i X).mx) (b := v) (by rw [H.k2, hkX r hr v hv])]
    have := H.lo; have := H.hi
    omega
theorem cref (a b : Val) : dw E 17 [.agg [.bool a.null, .int .i64 a.kind, .int .i64 a.int, bl a.bytes], .agg [.bool b.null, .int .i64 b.kind, .int .i64 b.int, bl b.bytes]] [] = some (.int .i64 (cmpV a b), []) := Compare_ref
theorem zones_len (s : List Col) (X : List (List Val)) : (zonesN s X).length = s.length := by simp [zonesN]
theorem rowsPV_take (X : List (List Val)) (k : Nat) : (rowsPV X).take k = rowsPV (X.take k) := by simp [rowsPV, List.map_take]
theorem rowsPV_drop (X : List (List Val)) (k : Nat) : (rowsPV X).drop k = rowsPV (X.drop k) := by simp [rowsPV, List.map_drop]
theorem ZoneGrows_spec {n at' : Int} {rows : List Int} : dw E 4 [.int .i64 n, .sl 1 (ints .i64 rows), .int .i64 at'] [] = some (.bool true, []) := by
  refine dw_in (fn := Try.f4) rfl body4 (by simp) ?_
  have hs : 1 ≤ (schemaN n).length ∧ (schemaN n).length ≤ 20 := ⟨schemaN_pos n, by have := schemaN_length n; omega⟩
  have h9 := awake9
  have hR := Rows_spec (s := schemaN n) (l := rows) hs
  have hKR := rowsZ_KR (n := n) rows
  have hRR := rowsZ_RR (n := n) rows
  have hXl := rowsZ_len (schemaN n) rows
  generalize rowsZ (schemaN n) rows = X at hR hKR hRR hXl
  obtain ⟨k, hk, hkl⟩ : ∃ k : Nat, at' % 256 % (X.length + 1) = (k : Int) ∧ k ≤ X.length := by
    have h1 := Int.emod_nonneg (at' % 256) (b := (X.length : Int) + 1) (by omega)
    have h2 := Int.emod_lt_of_pos (at' % 256) (b := (X.length : Int) + 1) (by omega)
    exact ⟨(at' % 256 % (X.length + 1)).toNat, by omega, by omega⟩
  have hOa := Of_spec (s := schemaN n) (rows := X.take k) hs.2 ⟨by rw [List.length_take]; omega, fun r hr => hRR.2 r (List.mem_of_mem_take hr)⟩
  have hOb := Of_spec (s := schemaN n) (rows := X.drop k) hs.2 ⟨by rw [List.length_drop]; omega, fun r hr => hRR.2 r (List.mem_of_mem_drop hr)⟩
  have hOc := Of_spec (s := schemaN n) (rows := X) hs.2 hRR
  have hF := fun i (hi : i < (schemaN n).length) => at3 hKR hXl k hi
  have la := zones_len (schemaN n) (X.take k)
  have lb := zones_len (schemaN n) (X.drop k)
  have lc := zones_len (schemaN n) X
  have hrp : (rowsPV X).length = X.length := by simp [rowsPV]
  generalize zonesN (schemaN n) (X.take k) = za at hOa hF la
  generalize zonesN (schemaN n) (X.drop k) = zb at hOb hF lb
  generalize zonesN (schemaN n) X = zc at hOc hF lc
  clear hKR hRR
  simp -implicitDefEqProofs (maxSteps := 4000000) (disch := omega) only [go_sem, go_sem_proc, dr, Nat.min_def, ↓Nat.reduceBEq, ↓Nat.reduceEqDiff, ↓Nat.reduceLT, ↓Nat.reduceLeDiff, ↓Int.reduceEq, ↓Int.reduceLT, ↓Int.reduceLE, ↓reduceIte, Schema_spec, hR, hrp, hk, rowsPV_take, rowsPV_drop, hOa, hOb, hOc, la, lb, lc]
  refine ⟨by ((repeat' split) <;> (change _ = true; kernel_rfl)), ?_⟩
  refine runs_for (fun i : Nat => (⟨[(8, .sl 1 (rowsPV X)), (10, .h 2097792), (11, .h 2097856), (12, .h 2097920), (66, .int .i64 (schemaN n).length), (67, .int .i64 i)], [(2097792, some ⟨true, .row 26 9 (za.map Zn.pv)⟩), (2097856, some ⟨true, .row 26 9 (zb.map Zn.pv)⟩), (2097920, some ⟨true, .row 26 9 (zc.map Zn.pv)⟩)], 1⟩ : St)) (schemaN n).length ?_ ?_ ?_
  · simp -implicitDefEqProofs (maxSteps := 4000000) (disch := omega) only [go_sem, go_sem_proc, dr, Nat.min_def, ↓Nat.reduceBEq, ↓Nat.reduceEqDiff, ↓Nat.reduceLT, ↓Nat.reduceLeDiff, ↓Int.reduceEq, ↓Int.reduceLT, ↓Int.reduceLE, ↓reduceIte, lc]
  · intro i hi
    obtain ⟨a, b, c, ha, hb, hc, H⟩ := hF i hi
    clear hF
    obtain ⟨hsum, ⟨ha0, ha1⟩, ⟨hb0, hb1⟩, hca, hcb, hrows⟩ := H
    simp -implicitDefEqProofs (maxSteps := 4000000) (disch := omega) only [go_sem, go_sem_proc, dr, Nat.min_def, ↓Nat.reduceBEq, ↓Nat.reduceEqDiff, ↓Nat.reduceLT, ↓Nat.reduceLeDiff, ↓Int.reduceEq, ↓Int.reduceLT, ↓Int.reduceLE, ↓reduceIte, ha, hb, hc, Zn.pv, la, lb, lc, hsum]
    refine ⟨by ((repeat' split) <;> (change _ = true; kernel_rfl)), by ((repeat' split) <;> (change _ = true; kernel_rfl)), ?_⟩
    refine runs_for (fun j : Nat => (⟨[(8, .sl 1 (rowsPV X)), (10, .h 2097792), (11, .h 2097856), (12, .h 2097920), (13, .int .i64 i), (66, .int .i64 (schemaN n).length), (67, .int .i64 i), (95, .h 2103232), (96, .int .i64 2), (97, .int .i64 j)], [(2097792, some ⟨true, .row 26 9 (za.map Zn.pv)⟩), (2097856, some ⟨true, .row 26 9 (zb.map Zn.pv)⟩), (2097920, some ⟨true, .row 26 9 (zc.map Zn.pv)⟩), (2103232, some ⟨true, .row 26 9 [[.int .i64 a.nulls, .bool a.mn.null, .int .i64 a.mn.kind, .int .i64 a.mn.int, bl a.mn.bytes, .bool a.mx.null, .int .i64 a.mx.kind, .int .i64 a.mx.int, bl a.mx.bytes], [.int .i64 b.nulls, .bool b.mn.null, .int .i64 b.mn.kind, .int .i64 b.mn.int, bl b.mn.bytes, .bool b.mx.null, .int .i64 b.mx.kind, .int .i64 b.mx.int, bl b.mx.bytes]]⟩)], 1⟩ : St)) 2 ?_ ?_ ?_
    · simp -implicitDefEqProofs (maxSteps := 4000000) (disch := omega) only [go_sem, go_sem_proc, dr, Nat.min_def, ↓Nat.reduceBEq, ↓Nat.reduceEqDiff, ↓Nat.reduceLT, ↓Nat.reduceLeDiff, ↓Int.reduceEq, ↓Int.reduceLT, ↓Int.reduceLE, ↓reduceIte]
    · intro j hj
      rcases (show j = 0 ∨ j = 1 by omega) with rfl | rfl
      · cases hn : a.mn.null with
        | true =>
          simp -implicitDefEqProofs (maxSteps := 4000000) (disch := omega) only [go_sem, go_sem_proc, dr, Nat.min_def, ↓Nat.reduceBEq, ↓Nat.reduceEqDiff, ↓Nat.reduceLT, ↓Nat.reduceLeDiff, ↓Int.reduceEq, ↓Int.reduceLT, ↓Int.reduceLE, ↓reduceIte, hc, Zn.pv, lc, hn]
          first | done | ((repeat' split) <;> (change _ = true; kernel_rfl))
        | false =>
          have hcn := hca.nl hn
          have h1 := hca.lo hn
          have h2 := hca.hi hn
          have r1 := cref c.mn a.mn
          have r2 := cref c.mx a.mx
          rw [hn, hcn] at r1
          generalize cmpV c.mn a.mn = u at r1 h1
          generalize cmpV c.mx a.mx = w at r2 h2
          simp -implicitDefEqProofs (maxSteps := 4000000) (disch := omega) only [go_sem, go_sem_proc, dr, Nat.min_def, ↓Nat.reduceBEq, ↓Nat.reduceEqDiff, ↓Nat.reduceLT, ↓Nat.reduceLeDiff, ↓Int.reduceEq, ↓Int.reduceLT, ↓Int.reduceLE, ↓reduceIte, hc, Zn.pv, lc, hn, hcn, r1, r2]
          first | done | ((repeat' split) <;> (change _ = true; kernel_rfl))
      · cases hn : b.mn.null with
        | true =>
          simp -implicitDefEqProofs (maxSteps := 4000000) (disch := omega) only [go_sem, go_sem_proc, dr, Nat.min_def, ↓Nat.reduceBEq, ↓Nat.reduceEqDiff, ↓Nat.reduceLT, ↓Nat.reduceLeDiff, ↓Int.reduceEq, ↓Int.reduceLT, ↓Int.reduceLE, ↓reduceIte, hc, Zn.pv, lc, hn]
          first | done | ((repeat' split) <;> (change _ = true; kernel_rfl))
        | false =>
          have hcn := hcb.nl hn
          have h1 := hcb.lo hn
          have h2 := hcb.hi hn
          have r1 := cref c.mn b.mn
          have r2 := cref c.mx b.mx
          rw [hn, hcn] at r1
          generalize cmpV c.mn b.mn = u at r1 h1
          generalize cmpV c.mx b.mx = w at r2 h2
          simp -implicitDefEqProofs (maxSteps := 4000000) (disch := omega) only [go_sem, go_sem_proc, dr, Nat.min_def, ↓Nat.reduceBEq, ↓Nat.reduceEqDiff, ↓Nat.reduceLT, ↓Nat.reduceLeDiff, ↓Int.reduceEq, ↓Int.reduceLT, ↓Int.reduceLE, ↓reduceIte, hc, Zn.pv, lc, hn, hcn, r1, r2]
          first | done | ((repeat' split) <;> (change _ = true; kernel_rfl))

    · simp -implicitDefEqProofs (maxSteps := 4000000) (disch := omega) only [go_sem, go_sem_proc, dr, Nat.min_def, ↓Nat.reduceBEq, ↓Nat.reduceEqDiff, ↓Nat.reduceLT, ↓Nat.reduceLeDiff, ↓Int.reduceEq, ↓Int.reduceLT, ↓Int.reduceLE, ↓reduceIte]
      refine runs_for (fun m : Nat => (⟨[(8, .sl 1 (rowsPV X)), (10, .h 2097792), (11, .h 2097856), (12, .h 2097920), (13, .int .i64 i), (66, .int .i64 (schemaN n).length), (67, .int .i64 i), (136, .sl 1 (rowsPV X)), (137, .int .i64 X.length), (138, .int .i64 m)], [(2097792, some ⟨true, .row 26 9 (za.map Zn.pv)⟩), (2097856, some ⟨true, .row 26 9 (zb.map Zn.pv)⟩), (2097920, some ⟨true, .row 26 9 (zc.map Zn.pv)⟩)], 1⟩ : St)) X.length ?_ ?_ ?_
      · simp -implicitDefEqProofs (maxSteps := 4000000) (disch := omega) only [go_sem, go_sem_proc, dr, Nat.min_def, ↓Nat.reduceBEq, ↓Nat.reduceEqDiff, ↓Nat.reduceLT, ↓Nat.reduceLeDiff, ↓Int.reduceEq, ↓Int.reduceLT, ↓Int.reduceLE, ↓reduceIte, hrp]
      · intro m hm
        obtain ⟨r', hr', hrm, _⟩ := take_get hm
        have hXr : (rowsPV X)[m]? = some [.sl 4 (r'.map Val.pv)] := by simp [rowsPV, hr']
        obtain ⟨v, hv, hvc⟩ := hrows r' hrm
        have hvl : i < r'.length := (List.getElem?_eq_some_iff.1 hv).1
        clear hrows hca hcb
        cases hn : v.null with
        | true =>
          simp -implicitDefEqProofs (maxSteps := 4000000) (disch := omega) only [go_sem, go_sem_proc, dr, Nat.min_def, ↓Nat.reduceBEq, ↓Nat.reduceEqDiff, ↓Nat.reduceLT, ↓Nat.reduceLeDiff, ↓Int.reduceEq, ↓Int.reduceLT, ↓Int.reduceLE, ↓reduceIte, hXr, hrp, hv, hn]
          first | done | ((repeat' split) <;> (change _ = true; kernel_rfl))
        | false =>
          obtain ⟨h1, h2⟩ := hvc hn
          have r1 := cref v c.mn
          have r2 := cref v c.mx
          rw [hn] at r1 r2
          generalize cmpV v c.mn = u at r1 h1
          generalize cmpV v c.mx = w at r2 h2
          simp -implicitDefEqProofs (maxSteps := 4000000) (disch := omega) only [go_sem, go_sem_proc, dr, Nat.min_def, ↓Nat.reduceBEq, ↓Nat.reduceEqDiff, ↓Nat.reduceLT, ↓Nat.reduceLeDiff, ↓Int.reduceEq, ↓Int.reduceLT, ↓Int.reduceLE, ↓reduceIte, hXr, hrp, hv, hn, hc, Zn.pv, lc, r1, r2]
          first | done | ((repeat' split) <;> (change _ = true; kernel_rfl))
      · simp -implicitDefEqProofs (maxSteps := 4000000) (disch := omega) only [go_sem, go_sem_proc, dr, Nat.min_def, ↓Nat.reduceBEq, ↓Nat.reduceEqDiff, ↓Nat.reduceLT, ↓Nat.reduceLeDiff, ↓Int.reduceEq, ↓Int.reduceLT, ↓Int.reduceLE, ↓reduceIte]
  · simp -implicitDefEqProofs (maxSteps := 4000000) (disch := omega) only [go_sem, go_sem_proc, dr, Nat.min_def, ↓Nat.reduceBEq, ↓Nat.reduceEqDiff, ↓Nat.reduceLT, ↓Nat.reduceLeDiff, ↓Int.reduceEq, ↓Int.reduceLT, ↓Int.reduceLE, ↓reduceIte, h9]
end Go.Proofs.Ytgocfiehbgoacaa.D
