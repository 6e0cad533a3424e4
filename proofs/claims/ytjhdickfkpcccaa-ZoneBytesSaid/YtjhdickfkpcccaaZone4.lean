/- Whether rows of a zone may be meant: of any predicate; and that none is left out. -/
import Derived.Test.YtjhdickfkpcccaaZone3
import Derived.Test.YtjhdickfkpcccaaNormSem
namespace Go.Proofs.Ytjhdickfkpcccaa.D
open Go Go.Den
set_option linter.unusedSimpArgs false
set_option linter.unusedVariables false
set_option maxRecDepth 20000
set_option maxHeartbeats 8000000
def mayN (zs : List Zn) (count : Int) (p : Prd) : Bool :=
  if count ≤ 0 then false
  else if (formN false p).2 then ((((formN false p).1.map andN).map Prd.still).any fun q => !(q.list.any fun x => !possN zs count x)) else true
theorem May_spec {zs : List Zn} {count : Int} {p : Prd} (hz : zs.length ≤ 1000) (hp : Sm p) (hc : cnt p ≤ 10000) : dw E 7 [.agg [.int .i64 p.kind, .int .i64 p.col, .int .i64 p.op, .bool p.val.null, .int .i64 p.val.kind, .int .i64 p.val.int, bl p.val.bytes, pl p.nil p.list], .sl 9 (zs.map Zn.pv), .int .i64 count] [] = some (.bool (mayN zs count p), []) := by
  refine dw_in (fn := Try.f7) rfl body7 (by simp) ?_
  unfold mayN
  by_cases h0 : count ≤ 0
  · rw [if_pos h0]
    simp -implicitDefEqProofs (maxSteps := 4000000) (disch := omega) only [go_sem, go_sem_proc, dr, Nat.min_def, ↓Nat.reduceBEq, ↓Nat.reduceEqDiff, ↓Nat.reduceLT, ↓Nat.reduceLeDiff, ↓Int.reduceEq, ↓Int.reduceLT, ↓Int.reduceLE, ↓reduceIte]
  rw [if_neg h0]
  have h0 : 0 < count := by omega
  cases hok : (formN false p).2 with
  | false =>
    have hN := Norm_no hp hc hok
    simp only [Bool.false_eq_true, if_false]
    simp -implicitDefEqProofs (maxSteps := 4000000) (disch := omega) only [go_sem, go_sem_proc, dr, Nat.min_def, ↓Nat.reduceBEq, ↓Nat.reduceEqDiff, ↓Nat.reduceLT, ↓Nat.reduceLeDiff, ↓Int.reduceEq, ↓Int.reduceLT, ↓Int.reduceLE, ↓reduceIte, hN]
    first | done | ((repeat' split) <;> (change _ = true; kernel_rfl))
  | true =>
    have hN := Norm_yes hp hc hok
    have g := form_Gd hp false
    have gok := g.ok hok
    have hl := form_len (p := p) false hok
    simp only [if_true]
    generalize (formN false p).1 = A at hN gok hl ⊢
    have hM : ((A.map andN).map Prd.still).length ≤ 1000000 := by simp; omega
    have hA : ∀ q ∈ (A.map andN).map Prd.still, dw E 12 [.agg [.int .i64 q.kind, .int .i64 q.col, .int .i64 q.op, .bool q.val.null, .int .i64 q.val.kind, .int .i64 q.val.int, bl q.val.bytes, pl q.nil q.list], .pc [.sl 9 (zs.map Zn.pv)], .pc [.int .i64 count]] [] = some (.bool (!(q.list.any fun x => !possN zs count x)), []) := fun q hq => by
      obtain ⟨x, hx, rfl⟩ := List.mem_map.1 hq
      obtain ⟨c, hc, rfl⟩ := List.mem_map.1 hx
      have e : (andN c).still = .mk 4 0 0 ⟨false, 0, 0, some []⟩ false ((c.2.map Prd.still).map Prd.still) := by rw [andN, still_mk]; rfl
      rw [e]
      have := May1_spec (zs := zs) (count := count) (L := (c.2.map Prd.still).map Prd.still) hz (by have := gok c hc; simp; omega)
      exact this
    have hC := Contains_n1 (P := fun q => !(q.list.any fun x => !possN zs count x)) hM hA
    generalize (A.map andN).map Prd.still = M at hN hC
    simp -implicitDefEqProofs (maxSteps := 4000000) (disch := omega) only [go_sem, go_sem_proc, dr, Nat.min_def, ↓Nat.reduceBEq, ↓Nat.reduceEqDiff, ↓Nat.reduceLT, ↓Nat.reduceLeDiff, ↓Int.reduceEq, ↓Int.reduceLT, ↓Int.reduceLE, ↓reduceIte, hN, hC]
    first | done | ((repeat' split) <;> (change _ = true; kernel_rfl))
/-- a zone holds what it took -/
structure Held (K : Int) (z : Zn) (v : Val) : Prop where
  n1 : z.mn.null = false
  n2 : z.mx.null = false
  k1 : z.mn.kind = K
  k2 : z.mx.kind = K
  lo : cmpV z.mn v ≤ 0
  hi : 0 ≤ cmpV z.mx v
theorem cmpV_stv_l (v w : Val) : cmpV (stv v) w = cmpV v w := rfl
theorem cmpV_refl (v : Val) : cmpV v v = 0 := by
  have h1 := cmpV_anti (a := v) (b := v) rfl
  omega
theorem take_held {K : Int} {z : Zn} {v w : Val} (hw : w.kind = K) (h : Held K z w) (hv : v.null = false) (hk : v.kind = K) : Held K (takeN z v) w := by
  unfold takeN
  rw [if_neg (by simp [hv]), if_neg (by simp [h.n1])]
  refine ⟨?_, ?_, ?_, ?_, ?_, ?_⟩
  · dsimp only; split
    · exact hv
    · exact h.n1
  · dsimp only; split
    · exact hv
    · exact h.n2
  · dsimp only; split
    · exact hk
    · exact h.k1
  · dsimp only; split
    · exact hk
    · exact h.k2
  · dsimp only; split
    · rename_i hl
      rw [cmpV_stv_l]
      exact cmpV_trans (by rw [hk, h.k1]) (by omega) h.lo
    · exact h.lo
  · dsimp only; split
    · rename_i hl
      rw [cmpV_stv_l]
      have h1 : cmpV w z.mx ≤ 0 := by rw [cmpV_anti (a := z.mx) (b := w) (by rw [h.k2, hw])]; have := h.hi; omega
      have h2 : cmpV z.mx v ≤ 0 := by rw [cmpV_anti (a := v) (b := z.mx) (by rw [h.k2, hk])]; omega
      have h3 := cmpV_trans (by rw [hw, h.k2]) h1 h2
      rw [cmpV_anti (a := v) (b := w) (by rw [hk, hw])] at h3
      omega
    · exact h.hi
theorem take_self {K : Int} {z : Zn} {v : Val} (hv : v.null = false) (hk : v.kind = K) (hz : z.mn.null = false → z.mx.null = false ∧ z.mn.kind = K ∧ z.mx.kind = K) : Held K (takeN z v) v := by
  unfold takeN
  rw [if_neg (by simp [hv])]
  split
  · refine ⟨hv, hv, hk, hk, ?_, ?_⟩
    · show cmpV (stv v) v ≤ 0; rw [cmpV_stv_l, cmpV_refl]; omega
    · show 0 ≤ cmpV (stv v) v; rw [cmpV_stv_l, cmpV_refl]; omega
  · rename_i hn
    have hn : z.mn.null = false := by simpa using hn
    obtain ⟨h2, h3, h4⟩ := hz hn
    refine ⟨?_, ?_, ?_, ?_, ?_, ?_⟩
    · dsimp only; split
      · exact hv
      · exact hn
    · dsimp only; split
      · exact hv
      · exact h2
    · dsimp only; split
      · exact hk
      · exact h3
    · dsimp only; split
      · exact hk
      · exact h4
    · dsimp only; split
      · rw [cmpV_stv_l, cmpV_refl]; omega
      · rw [cmpV_anti (a := v) (b := z.mn) (by rw [h3, hk])]; omega
    · dsimp only; split
      · rw [cmpV_stv_l, cmpV_refl]; omega
      · rw [cmpV_anti (a := v) (b := z.mx) (by rw [h4, hk])]; omega
/-- what is known of a column's zone -/
structure ZI (K : Int) (i : Nat) (rows : List (List Val)) (z : Zn) : Prop where
  kz : z.mn.null = false → z.mx.null = false ∧ z.mn.kind = K ∧ z.mx.kind = K
  held : ∀ r ∈ rows, ∀ v, r[i]? = some v → v.null = false → Held K z v
  le : z.nulls ≤ rows.length
  none : ∀ r ∈ rows, ∀ v, r[i]? = some v → v.null = true → 1 ≤ z.nulls
  some : ∀ r ∈ rows, ∀ v, r[i]? = some v → v.null = false → z.nulls < rows.length
  pos : 0 ≤ z.nulls
theorem zone_inv {K : Int} {i : Nat} : ∀ (done rest : List (List Val)) (z : Zn), (∀ r ∈ done ++ rest, ∀ v, r[i]? = some v → v.kind = K) → ZI K i done z → ZI K i (done ++ rest) (rest.foldl (stepZ i) z) := by
  intro done rest
  induction rest generalizing done with
  | nil => intro z _ h; simpa using h
  | cons r t ih =>
    intro z hk h
    rw [List.foldl_cons, show done ++ r :: t = (done ++ [r]) ++ t by simp]
    refine ih (done ++ [r]) (stepZ i z r) (fun x hx => hk x (by simpa using hx)) ?_
    have hkd : ∀ x ∈ done, ∀ v, x[i]? = some v → v.kind = K := fun x hx => hk x (List.mem_append_left _ hx)
    have hkr : ∀ v, r[i]? = some v → v.kind = K := hk r (by simp)
    unfold stepZ
    split
    · rename_i v hv
      cases hn : v.null with
      | true =>
        have e : takeN z v = ⟨z.nulls + 1, z.mn, z.mx⟩ := by unfold takeN; rw [if_pos hn]
        rw [e]
        have hl : (done ++ [r]).length = done.length + 1 := by simp
        refine ⟨h.kz, ?_, by rw [hl]; have := h.le; dsimp only; omega, ?_, ?_, by have := h.pos; dsimp only; omega⟩
        · intro x hx w hw hwn
          rcases List.mem_append.1 hx with hx | hx
          · have := h.held x hx w hw hwn
            exact ⟨this.n1, this.n2, this.k1, this.k2, this.lo, this.hi⟩
          · simp at hx; subst hx; rw [hv] at hw; injection hw with hw; subst hw; rw [hn] at hwn; cases hwn
        · intro x hx w hw hwn
          have := h.pos; dsimp only; omega
        · intro x hx w hw hwn
          rcases List.mem_append.1 hx with hx | hx
          · have := h.some x hx w hw hwn; rw [hl]; dsimp only; omega
          · simp at hx; subst hx; rw [hv] at hw; injection hw with hw; subst hw; rw [hn] at hwn; cases hwn
      | false =>
        have hkv := hkr v hv
        have hs := take_self hn hkv h.kz
        have hnl : (takeN z v).nulls = z.nulls := by unfold takeN; rw [if_neg (by simp [hn])]; split <;> rfl
        have hl : (done ++ [r]).length = done.length + 1 := by simp
        refine ⟨fun _ => ⟨hs.n2, hs.k1, hs.k2⟩, ?_, by rw [hl, hnl]; have := h.le; omega, ?_, ?_, by rw [hnl]; exact h.pos⟩
        · intro x hx w hw hwn
          rcases List.mem_append.1 hx with hx | hx
          · exact take_held (hkd x hx w hw) (h.held x hx w hw hwn) hn hkv
          · simp at hx; subst hx; rw [hv] at hw; injection hw with hw; subst hw; exact hs
        · intro x hx w hw hwn
          rw [hnl]
          rcases List.mem_append.1 hx with hx | hx
          · exact h.none x hx w hw hwn
          · simp at hx; subst hx; rw [hv] at hw; injection hw with hw; subst hw; rw [hn] at hwn; cases hwn
        · intro x hx w hw hwn
          rw [hnl, hl]
          have := h.le
          omega
    · rename_i hv
      have hl : (done ++ [r]).length = done.length + 1 := by simp
      refine ⟨h.kz, ?_, by rw [hl]; have := h.le; omega, ?_, ?_, h.pos⟩
      · intro x hx w hw hwn
        rcases List.mem_append.1 hx with hx | hx
        · exact h.held x hx w hw hwn
        · simp at hx; subst hx; rw [hv] at hw; cases hw
      · intro x hx w hw hwn
        rcases List.mem_append.1 hx with hx | hx
        · exact h.none x hx w hw hwn
        · simp at hx; subst hx; rw [hv] at hw; cases hw
      · intro x hx w hw hwn
        rw [hl]
        have := h.le
        omega
theorem zoneC_inv {K k : Int} {i : Nat} {rows : List (List Val)} (hk : ∀ r ∈ rows, ∀ v, r[i]? = some v → v.kind = K) : ZI K i rows (zoneC k i rows) := by
  have := zone_inv (K := K) (i := i) [] rows (zone0 k) (by simpa using hk) ⟨fun h => (by cases h), fun r hr => (by cases hr), (by simp [zone0]), fun r hr => (by cases hr), fun r hr => (by cases hr), (by simp [zone0])⟩
  rw [List.nil_append] at this
  exact this
/-- what is so of a row is possible -/
theorem poss_cmp {K : Int} {z : Zn} {v w : Val} {o : Int} (H : Held K z v) (hk : v.kind = K) (hw : w.kind = K) (ho : 1 ≤ o ∧ o ≤ 6) (hh : holdsOp o (cmpV v w) = true) : compN o w z = true := by
  have hvx : cmpV v z.mx ≤ 0 := by rw [cmpV_anti (a := z.mx) (b := v) (by rw [H.k2, hk])]; have := H.hi; omega
  have a1 : cmpV v w ≤ 0 → cmpV z.mn w ≤ 0 := fun h => cmpV_trans (by rw [H.k1, hk]) H.lo h
  have a2 : 0 ≤ cmpV v w → 0 ≤ cmpV z.mx w := fun h => by
    have h1 : cmpV w v ≤ 0 := by rw [cmpV_anti (a := v) (b := w) (by rw [hk, hw])]; omega
    have h2 := cmpV_trans (by rw [hw, hk]) h1 hvx
    rw [cmpV_anti (a := z.mx) (b := w) (by rw [H.k2, hw])] at h2; omega
  have a3 : cmpV v w < 0 → cmpV z.mn w < 0 := fun h => by
    by_cases hc : cmpV z.mn w < 0
    · exact hc
    · have h1 : cmpV w z.mn ≤ 0 := by rw [cmpV_anti (a := z.mn) (b := w) (by rw [H.k1, hw])]; omega
      have h2 := cmpV_trans (by rw [hw, H.k1]) h1 H.lo
      rw [cmpV_anti (a := v) (b := w) (by rw [hk, hw])] at h2; omega
  have a4 : 0 < cmpV v w → 0 < cmpV z.mx w := fun h => by
    by_cases hc : 0 < cmpV z.mx w
    · exact hc
    · have := cmpV_trans (by rw [hk, H.k2]) hvx (show cmpV z.mx w ≤ 0 by omega)
      omega
  unfold compN
  rw [if_neg (by simp [H.n1])]
  rcases (show o = 1 ∨ o = 2 ∨ o = 3 ∨ o = 4 ∨ o = 5 ∨ o = 6 by omega) with rfl | rfl | rfl | rfl | rfl | rfl
  · rw [if_pos rfl]
    have h : cmpV v w = 0 := by simpa [holdsOp] using hh
    have := a1 (by omega); have := a2 (by omega)
    simp; omega
  · rw [if_neg (by decide), if_pos rfl]
    have h : ¬ cmpV v w = 0 := by simpa [holdsOp] using hh
    by_cases hc : cmpV v w < 0
    · have := a3 hc
      simp; omega
    · have := a4 (by omega)
      simp; omega
  · rw [if_neg (by decide), if_neg (by decide), if_pos (.inl rfl)]
    have h : cmpV v w < 0 := by simpa [holdsOp] using hh
    have := a3 h
    simp [holdsOp]; omega
  · rw [if_neg (by decide), if_neg (by decide), if_pos (.inr rfl)]
    have h : cmpV v w ≤ 0 := by simpa [holdsOp] using hh
    have := a1 h
    simp [holdsOp]; omega
  · rw [if_neg (by decide), if_neg (by decide), if_neg (by decide)]
    have h : 0 < cmpV v w := by simpa [holdsOp] using hh
    have := a4 h
    simp [holdsOp]; omega
  · rw [if_neg (by decide), if_neg (by decide), if_neg (by decide)]
    have h : 0 ≤ cmpV v w := by simpa [holdsOp] using hh
    have := a2 h
    simp [holdsOp]; omega
/-- the columns' kinds -/
def KR (s : List Col) (rows : List (List Val)) : Prop := ∀ r ∈ rows, r.length = s.length ∧ ∀ (i : Nat) (c : Col) (v : Val), s[i]? = some c → r[i]? = some v → v.kind = c.kind
theorem zone_at {s : List Col} {rows : List (List Val)} (hk : KR s rows) {i : Nat} {c : Col} (hc : s[i]? = some c) : ∃ z, (zonesN s rows)[i]? = some z ∧ ZI c.kind i rows z :=
  ⟨zoneC c.kind i rows, by simp [zonesN, hc], zoneC_inv fun r hr v hv => (hk r hr).2 i c v hc hv⟩
theorem poss_cmp_at {s : List Col} {rows : List (List Val)} (hk : KR s rows) {row : List Val} (hr : row ∈ rows) {c o : Int} {w : Val} (hc : 0 ≤ c ∧ c < s.length) (ho : 1 ≤ o ∧ o ≤ 6) (n : Bool) (l : List Prd) (h : (Prd.mk 2 c o w n l).eval row = 1) (b : Bool) (count : Int) :
    possA 2 c o w b (zonesN s rows) count = true := by
  obtain ⟨i, rfl⟩ := Int.eq_ofNat_of_zero_le (a := c) hc.1
  obtain ⟨col, hcol, _, _⟩ := take_get (show i < s.length by omega)
  obtain ⟨z, hz, Z⟩ := zone_at hk hcol
  obtain ⟨hl, hkr⟩ := hk row hr
  obtain ⟨v, hv, _, _⟩ := take_get (show i < row.length by omega)
  rw [eval_mk, if_neg (by decide), if_pos rfl, atV_in rfl hv] at h
  unfold possA
  rw [if_neg (by omega), Int.toNat_natCast, hz]
  dsimp only
  rw [if_pos rfl]
  cases hn : v.null with
  | true => rw [hn] at h; simp at h
  | false =>
    rw [hn] at h
    simp only [Bool.false_eq_true, if_false, truthI_one] at h
    exact poss_cmp (w := ⟨w.null, col.kind, w.int, w.bytes⟩) (Z.held row hr v hv hn) (hkr i col v hcol hv) rfl ho h
theorem poss_null_at {s : List Col} {rows : List (List Val)} (hk : KR s rows) {row : List Val} (hr : row ∈ rows) {c o : Int} {w : Val} (hc : 0 ≤ c ∧ c < s.length) (b : Bool) (h : truthI (atV row c).null = if b then 2 else 1) :
    possA 3 c o w b (zonesN s rows) rows.length = true := by
  obtain ⟨i, rfl⟩ := Int.eq_ofNat_of_zero_le (a := c) hc.1
  obtain ⟨col, hcol, _, _⟩ := take_get (show i < s.length by omega)
  obtain ⟨z, hz, Z⟩ := zone_at hk hcol
  obtain ⟨hl, hkr⟩ := hk row hr
  obtain ⟨v, hv, _, _⟩ := take_get (show i < row.length by omega)
  rw [atV_in rfl hv] at h
  unfold possA
  rw [if_neg (by omega), Int.toNat_natCast, hz]
  dsimp only
  rw [if_neg (by decide)]
  cases b
  · simp only [Bool.false_eq_true, if_false, truthI_one] at h ⊢
    have := Z.none row hr v hv h
    simp; omega
  · simp only [if_true, truthI_two] at h ⊢
    have := Z.some row hr v hv h
    simp; omega
/-- a thing of a form: it asks of one value -/
def ShapeQ (q : Prd) : Prop := q.kind = 2 ∨ q.kind = 3 ∨ (q.kind = 6 ∧ ∃ x, q.list = [x] ∧ x.kind = 3)
theorem form_shape {p : Prd} (not : Bool) : AllQ ShapeQ (formN not p) := by
  induction p using Prd.ind generalizing not with
  | h k c o v n l ih =>
    rw [form_mk]
    split
    · cases not
      · intro c hc q hq; simp at hc; subst hc; cases hq
      · intro c hc; cases hc
    split
    · intro d hd q hq; simp at hd; subst hd; simp at hq; subst hq
      rw [still_mk]; exact .inl rfl
    split
    · intro d hd q hq; simp at hd; subst hd; simp at hq; subst hq
      cases not
      · simp only [Bool.false_eq_true, if_false]; rw [still_mk]; exact .inr (.inl rfl)
      · simp only [if_true, notP]; rw [still_mk]
        refine .inr (.inr ⟨rfl, _, rfl, ?_⟩)
        rw [still_mk, still_mk]; rfl
    split
    · refine AllQ.list fun y hy => ?_
      obtain ⟨q, hq, rfl⟩ := List.mem_map.1 hy
      exact ih q hq not
    split
    · refine AllQ.list fun y hy => ?_
      obtain ⟨q, hq, rfl⟩ := List.mem_map.1 hy
      exact ih q hq not
    split
    · cases l with
      | nil => intro c hc; cases hc
      | cons q r => exact ih q List.mem_cons_self _
    · intro c hc; cases hc
theorem poss_atom {s : List Col} {rows : List (List Val)} (hk : KR s rows) {row : List Val} (hr : row ∈ rows) {q : Prd} (hw : RW s.length q) (hs : ShapeQ q) (h : q.eval row = 1) : possN (zonesN s rows) rows.length q = true := by
  obtain ⟨k, c, o, v, n, l⟩ := q
  obtain ⟨hkk, w2, w3, w6, hwl⟩ := hw
  rw [possN_mk]
  rcases hs with h2 | h3 | ⟨h6, x, hx, hx3⟩
  · simp only [Prd.kind] at h2
    subst h2
    rw [if_neg (by decide)]
    exact poss_cmp_at hk hr (w2 rfl).1 (w2 rfl).2 n l h _ _
  · simp only [Prd.kind] at h3
    subst h3
    rw [if_neg (by decide)]
    rw [eval_mk, if_neg (by decide), if_neg (by decide), if_pos rfl] at h
    exact poss_null_at hk hr (w3 rfl) false (by simpa using h)
  · simp only [Prd.kind] at h6
    simp only [Prd.list] at hx
    subst h6; subst hx
    rw [if_pos rfl]
    have hwx := hwl x (by simp)
    obtain ⟨k', c', o', v', n', l'⟩ := x
    simp only [Prd.kind] at hx3
    subst hx3
    obtain ⟨_, _, w3', _, _⟩ := hwx
    rw [eval_mk, if_neg (by decide), if_neg (by decide), if_neg (by decide), if_neg (by decide), if_neg (by decide), if_pos rfl] at h
    simp only [List.map_cons, List.map_nil] at h
    rw [eval_mk, if_neg (by decide), if_neg (by decide), if_pos rfl] at h
    refine poss_null_at hk hr (w3' rfl) true ?_
    cases hb : (atV row c').null
    · decide
    · rw [hb] at h; exact absurd h (by decide)
theorem ShapeQ_still {q : Prd} (h : ShapeQ q) : ShapeQ q.still := by
  obtain ⟨k, c, o, v, n, l⟩ := q
  rw [still_mk]
  rcases h with h | h | ⟨h, x, hx, h3⟩
  · exact .inl h
  · exact .inr (.inl h)
  · refine .inr (.inr ⟨h, x.still, ?_, ?_⟩)
    · simp only [Prd.list] at hx ⊢; rw [hx]; rfl
    · obtain ⟨k', c', o', v', n', l'⟩ := x; rw [still_mk]; exact h3
/-- where a row is meant, it may be -/
theorem may_safe {s : List Col} {rows : List (List Val)} (hk : KR s rows) {row : List Val} (hr : row ∈ rows) {p : Prd} (hw : RW s.length p) (h : p.eval row = 1) : mayN (zonesN s rows) rows.length p = true := by
  have hpos : 0 < rows.length := List.length_pos_of_mem hr
  unfold mayN
  rw [if_neg (by omega)]
  split
  · rename_i hok
    have hs := (form_sem (row := row) hw false hok).2 (by simpa using h)
    obtain ⟨c, hc, hh⟩ := hs
    rw [List.any_eq_true]
    refine ⟨(andN c).still, List.mem_map_of_mem (List.mem_map_of_mem hc), ?_⟩
    have e : (andN c).still.list = (c.2.map Prd.still).map Prd.still := by rw [andN, still_mk]; rfl
    rw [e]
    simp only [Bool.not_eq_true', List.any_eq_false]
    intro x hx
    obtain ⟨y, hy, rfl⟩ := List.mem_map.1 hx
    obtain ⟨q, hq, rfl⟩ := List.mem_map.1 hy
    have := poss_atom hk hr (RW_still (RW_still (form_RW hw false c hc q hq))) (ShapeQ_still (ShapeQ_still (form_shape false c hc q hq))) (by rw [eval_still, eval_still]; exact hh q hq)
    simp [this]
  · rfl
end Go.Proofs.Ytjhdickfkpcccaa.D
