/- Den: the document's own columns are columns of numbers. No program in sight. -/
import Derived.Test.YtojaklgmojmjeaaDenP
import Derived.Test.YtojaklgmojmjeaaDenQ
set_option linter.unusedVariables false
set_option linter.unusedSimpArgs false
namespace Go.Den
open Go Go.RowKit
def TX (l : List Int) : List RB' := l.map fun x => some (tx x)
theorem TX_cons (x : Int) (r : List Int) : TX (x :: r) = some (tx x) :: TX r := rfl
theorem TX_len (l : List Int) : (TX l).length = l.length := by simp [TX]
theorem TX_nums {l : List Int} (h : Ri64 l) : numsO (TX l) = l := by
  unfold numsO TX
  rw [List.map_map]
  refine (List.map_congr_left fun x hx => ?_).trans (List.map_id l)
  exact n64_tx (h x hx)
theorem TX_told {l : List Int} (h : Ri64 l) : toldL true (TX l) = zigs l := by
  induction l with
  | nil => rfl
  | cons x r ih =>
    obtain ⟨h1, h2⟩ := h.cons
    rw [TX_cons, toldL_cons, zigs_cons, ih h2]
    unfold toldO
    rw [if_pos rfl, bz_some, n64_tx h1]
theorem TX_run {x : Int} {l : List Int} (hx : -9223372036854775808 ≤ x ∧ x < 9223372036854775808) (h : Ri64 l) : rnO (some (tx x)) (TX l) = runLen x l := by
  induction l with
  | nil => rfl
  | cons y r ih =>
    obtain ⟨h1, h2⟩ := h.cons
    have ih := ih h2
    unfold rnO runLen at ih ⊢
    rw [TX_cons, List.takeWhile_cons, List.takeWhile_cons]
    by_cases hy : y = x
    · subst hy
      simp only [decide_true, ↓reduceIte, beq_self_eq_true, List.length_cons, ih]
    · have e1 : decide (bz (some (tx y)) = bz (some (tx x))) = false := decide_eq_false (fun e => hy (tx_inj h1 hx e))
      have e2 : (y == x) = false := by simpa using hy
      rw [e1, e2]
      rfl
theorem TX_drop (l : List Int) (n : Nat) : (TX l).drop n = TX (l.drop n) := by simp [TX, List.map_drop]
theorem TX_runs : ∀ (n : Nat) {l : List Int}, l.length ≤ n → Ri64 l → rnsO true (TX l) = runsL l
  | _, [], _, _ => by rw [runsL_nil]; exact rnsO_nil true
  | 0, _ :: _, h, _ => by simp at h
  | n + 1, x :: r, h, hr => by
    obtain ⟨h1, h2⟩ := hr.cons
    rw [TX_cons, rnsO_cons, runsL_cons, TX_run h1 h2, TX_drop, TX_runs n (by simp at h ⊢; omega) (h2.sub fun z hz => List.mem_of_mem_drop hz)]
    unfold toldO
    rw [if_pos rfl, bz_some, n64_tx h1]
theorem mnL_min (l : List Int) : mnL l = minL l := by
  cases l with
  | nil => rfl
  | cons x r => simp [mnL, minL]
theorem mxL_max (l : List Int) : mxL l = maxL l := by
  cases l with
  | nil => rfl
  | cons x r => simp [mxL, maxL]
theorem TX_frame {l : List Int} (h : Ri64 l) : frO (TX l) = frameL l := by
  unfold frO frameL
  by_cases hn : l = []
  · subst hn; rfl
  · rw [if_neg hn, if_neg (by simpa [TX] using hn)]
    unfold wideO farO wideL
    rw [TX_nums h, mnL_min, mxL_max]
theorem TX_mem {l : List Int} {z : List Int} : (∃ y ∈ TX l, bz y = z) ↔ ∃ x ∈ l, tx x = z := by
  unfold TX
  constructor
  · rintro ⟨y, hy, e⟩
    obtain ⟨x, hx, rfl⟩ := List.mem_map.1 hy
    exact ⟨x, hx, e⟩
  · rintro ⟨x, hx, e⟩
    exact ⟨_, List.mem_map.2 ⟨x, hx, rfl⟩, e⟩
theorem TX_sub {l : List Int} {y : RB'} (h : y ∈ TX l) : ∃ x ∈ l, y = some (tx x) := by
  obtain ⟨x, hx, e⟩ := List.mem_map.1 h
  exact ⟨x, hx, e.symm⟩
theorem some_bz {l : List RB'} (h : ∀ y ∈ l, ∃ z, y = some z) : l = (l.map bz).map some := by
  rw [List.map_map]
  refine ((List.map_congr_left fun y hy => ?_).trans (List.map_id l)).symm
  obtain ⟨z, rfl⟩ := h y hy
  rfl
theorem TX_unlike {l : List Int} (h : Ri64 l) : unlikeO (TX l) = TX (uniq l) := by
  have hu : Ri64 (uniq l) := h.sub fun x hx => uniq_mem.1 hx
  have e1 : (unlikeO (TX l)).map bz = (TX (uniq l)).map bz := by
    refine SB_unique ?_ ?_ fun z => ?_
    · rw [List.pairwise_map]; exact unlikeO_sorted _
    · rw [List.pairwise_map]
      unfold TX
      rw [List.pairwise_map]
      refine (uniq_sorted l).imp_of_mem fun {a b} ha hb hab => ?_
      rw [bz_some, bz_some, ltB_tx (hu a ha) (hu b hb), decide_eq_true hab]
    · rw [List.mem_map, List.mem_map, unlikeO_mem, TX_mem, TX_mem]
      constructor
      · rintro ⟨x, hx, e⟩; exact ⟨x, uniq_mem.2 hx, e⟩
      · rintro ⟨x, hx, e⟩; exact ⟨x, uniq_mem.1 hx, e⟩
  rw [some_bz (l := unlikeO (TX l)) fun y hy => ?_, e1, ← some_bz (l := TX (uniq l)) fun y hy => ?_]
  · obtain ⟨x, _, e⟩ := TX_sub hy; exact ⟨_, e⟩
  · obtain ⟨x, _, e⟩ := TX_sub (unlikeO_sub hy); exact ⟨_, e⟩
theorem TX_get {u : List Int} {j : Nat} {x : Int} (h : u[j]? = some x) : (TX u)[j]? = some (some (tx x)) := by
  rw [TX, List.getElem?_map, h]; rfl
theorem TX_idx {u : List Int} {x : Int} (hu : Ri64 u) (hs : u.Pairwise (· < ·)) (hx : x ∈ u) : idxO (TX u) (tx x) = lb u x := by
  have hm := lb_mem hs hx
  refine idxO_is (TX_get hm) rfl fun j hj y hy => ?_
  have hjl : j < u.length := Nat.lt_trans hj (List.getElem?_eq_some_iff.1 hm).1
  have hg : u[j]? = some u[j] := List.getElem?_eq_getElem hjl
  rw [TX_get hg] at hy
  injection hy with hy
  subst hy
  have hlt := (lb_lt hs hg).2 hj
  rw [bz_some]
  intro e
  have := tx_inj (hu _ (List.getElem_mem hjl)) (hu x hx) e
  omega
theorem TX_dict {l : List Int} (h : Ri64 l) : dictO true (TX l) = dictL l := by
  have hu : Ri64 (uniq l) := h.sub fun x hx => uniq_mem.1 hx
  unfold dictO dictL idxsO
  rw [TX_unlike h, TX_told hu, TX_len]
  congr 2
  unfold TX
  rw [List.map_map]
  refine List.map_congr_left fun x hx => ?_
  simp only [Function.comp_apply, bz_some]
  rw [show ((uniq l).map fun x => some (tx x)) = TX (uniq l) from rfl, TX_idx hu (uniq_sorted l) (uniq_mem.2 hx)]
theorem refTell_TX {l : List Int} (h : Ri64 l) (k : Int) : refTell true k (TX l) = tellL k l := by
  unfold refTell tellL
  rw [TX_len]
  by_cases hl : 65535 < l.length
  · rw [if_pos hl, if_pos hl]
  · rw [if_neg hl, if_neg hl]
    unfold refBody bodyL
    rw [TX_told h, TX_runs l.length (Nat.le_refl _) h, TX_frame h, TX_dict h]
    by_cases h1 : k = 1
    · rw [if_pos h1, if_pos h1]; rfl
    by_cases h2 : k = 2
    · rw [if_neg h1, if_neg h1, if_pos h2, if_pos h2]; rfl
    by_cases h3 : k = 3
    · rw [if_neg h1, if_neg h1, if_neg h2, if_neg h2, if_pos h3, if_pos h3]; rfl
    by_cases h4 : k = 4
    · rw [if_neg h1, if_neg h1, if_neg h2, if_neg h2, if_neg h3, if_neg h3, if_pos h4]; rfl
    · rw [if_neg h1, if_neg h1, if_neg h2, if_neg h2, if_neg h3, if_neg h3, if_neg h4]; rfl

/-! ### what is read are numbers -/
theorem pnum_hi2 : ∀ {zs : List Int} {i : Nat} {u v : Int} {r : List Int}, R8 zs → i ≤ 9 → 0 ≤ u → u < 128 ^ i → pnum i u zs = some (v, r) → v < 18446744073709551616
  | [], _, _, _, _, _, _, _, _, h => by simp [pnum] at h
  | c :: t, i, u, v, r, hz, hi, h0, h1, h => by
    have hc := hz c (by simp)
    have ht : R8 t := fun z hz' => hz z (by simp [hz'])
    rw [pnum] at h
    split at h
    · cases h
    · rename_i hb
      split at h
      · injection h with h
        injection h with h2 h3
        have hi' : i = 0 ∨ i = 1 ∨ i = 2 ∨ i = 3 ∨ i = 4 ∨ i = 5 ∨ i = 6 ∨ i = 7 ∨ i = 8 ∨ i = 9 := by omega
        rcases hi' with rfl | rfl | rfl | rfl | rfl | rfl | rfl | rfl | rfl | rfl <;> simp only [Int.reducePow] at h1 h2 <;> omega
      · have hi' : i = 0 ∨ i = 1 ∨ i = 2 ∨ i = 3 ∨ i = 4 ∨ i = 5 ∨ i = 6 ∨ i = 7 ∨ i = 8 ∨ i = 9 := by omega
        rcases hi' with rfl | rfl | rfl | rfl | rfl | rfl | rfl | rfl | rfl | rfl
        all_goals first
          | (refine pnum_hi2 ht (by omega) ?_ ?_ h <;> simp only [Int.reducePow, Nat.reduceAdd] at h1 ⊢ <;> omega)
          | (exfalso; apply hb; left; omega)
def Tok (L : List RB') : Prop := ∃ l, Ri64 l ∧ L = TX l
theorem Tok_nil : Tok [] := ⟨[], fun z hz => by simp at hz, rfl⟩
theorem Tok_of {L : List RB'} (h : ∀ y ∈ L, ∃ x, (-9223372036854775808 ≤ x ∧ x < 9223372036854775808) ∧ y = some (tx x)) : Tok L := by
  induction L with
  | nil => exact Tok_nil
  | cons y r ih =>
    obtain ⟨l, hl, e⟩ := ih fun z hz => h z (by simp [hz])
    obtain ⟨x, hx, e'⟩ := h y (by simp)
    refine ⟨x :: l, fun z hz => ?_, by rw [TX_cons, ← e, ← e']⟩
    rcases List.mem_cons.1 hz with rfl | hz
    · exact hx
    · exact hl z hz
def Elt (y : RB') : Prop := ∃ x : Int, (-9223372036854775808 ≤ x ∧ x < 9223372036854775808) ∧ y = some (tx x)
theorem rnumS_v {s : RS} (h : R8 s.1) : R8 (rnumS s).2.1 ∧ 0 ≤ (rnumS s).1 ∧ (rnumS s).1 < 18446744073709551616 := by
  obtain ⟨B, bad⟩ := s
  cases bad with
  | true => exact ⟨h, (by show (0 : Int) ≤ 0; decide), (by show (0 : Int) < _; decide)⟩
  | false =>
    unfold rnumS
    dsimp only
    cases hp : pnum 0 0 B with
    | none => exact ⟨h, (by show (0 : Int) ≤ 0; decide), (by show (0 : Int) < _; decide)⟩
    | some p =>
      obtain ⟨v, r⟩ := p
      exact ⟨pnum_R8 hp h, pnum_nonneg hp (by decide), pnum_hi2 h (by decide) (by decide) (by decide) hp⟩
theorem zag_r {v : Int} (h0 : 0 ≤ v) (h1 : v < 18446744073709551616) : -9223372036854775808 ≤ zag v ∧ zag v < 9223372036854775808 := by unfold zag; split <;> omega
theorem rvalS_T {s : RS} (h : R8 s.1) : Elt (rvalS true s).1 ∧ R8 (rvalS true s).2.1 := by
  obtain ⟨h1, h2, h3⟩ := rnumS_v h
  exact ⟨⟨_, zag_r h2 h3, rfl⟩, h1⟩
theorem refPl_T {s : RS} (h : R8 s.1) : ∀ j, (∀ y ∈ (refPl true s j).1, Elt y) ∧ R8 (refPl true s j).2.1
  | 0 => ⟨fun y hy => by simp [refPl] at hy, h⟩
  | j + 1 => by
    obtain ⟨h1, h2⟩ := refPl_T h j
    unfold refPl
    split
    · exact ⟨h1, h2⟩
    · obtain ⟨g1, g2⟩ := rvalS_T h2
      refine ⟨fun y hy => ?_, g2⟩
      rcases List.mem_append.1 hy with hy | hy
      · exact h1 y hy
      · rw [List.mem_singleton.1 hy]; exact g1
theorem refRn_T {n : Nat} : ∀ (f : Nat) {out : List RB'} {s : RS} {L : List RB'} {s' : RS}, R8 s.1 → (∀ y ∈ out, Elt y) → refRn true n f out s = some (L, s') → ∀ y ∈ L, Elt y
  | 0, out, s, L, s', _, ho, e => by injection e with e; injection e with e1 e2; subst e1; exact ho
  | f + 1, out, s, L, s', h, ho, e => by
    unfold refRn at e
    split at e
    · split at e
      · cases e
      · obtain ⟨h1, _, _⟩ := rnumS_v h
        obtain ⟨g1, g2⟩ := rvalS_T h1
        refine refRn_T f g2 (fun y hy => ?_) e
        rcases List.mem_append.1 hy with hy | hy
        · exact ho y hy
        · obtain ⟨_, rfl⟩ := List.mem_replicate.1 hy; exact g1
    · injection e with e; injection e with e1 e2; subst e1; exact ho
theorem pickO_mem {u : List RB'} : ∀ {l : List Int} {o : List RB'}, (∀ i ∈ l, 0 ≤ i) → pickO u l = some o → ∀ y ∈ o, y ∈ u
  | [], o, _, e => by injection e with e; subst e; intro y hy; simp at hy
  | i :: r, o, h, e => by
    rw [pickO] at e
    split at e
    · cases e
    · rename_i hi
      cases hp : pickO u r with
      | none => rw [hp] at e; cases e
      | some q =>
        rw [hp] at e
        injection e with e
        subst e
        intro y hy
        rcases List.mem_cons.1 hy with rfl | hy
        · have h0 := h i (by simp)
          have hlt : i.toNat < u.length := by omega
          rw [List.getD_eq_getElem?_getD, List.getElem?_eq_getElem hlt]
          exact List.getElem_mem hlt
        · exact pickO_mem (fun z hz => h z (by simp [hz])) hp y hy
theorem unpack_r8 {n c : Int} {zs w : List Int} (h : unpack n zs c = some w) : R64 w := by
  unfold unpack at h
  split at h
  · cases h
  · split at h
    · injection h with h; subst h; exact unpL_R64 (heldN_le n) zs _
    · cases h
theorem refRaw_T {k : Int} {zs : List Int} {n : Nat} {L : List RB'} {s : RS} (h : R8 zs) (e : refRaw true k zs n = some (L, s)) : Tok L := by
  refine Tok_of ?_
  have h0 : R8 ((zs, false) : RS).1 := h
  unfold refRaw at e
  split at e
  · injection e with e
    have := (refPl_T h0 n).1
    rw [e] at this
    exact this
  split at e
  · exact refRn_T _ h0 (fun y hy => by simp at hy) e
  split at e
  · unfold refFr at e
    split at e
    · injection e with e; injection e with e1 e2; subst e1; intro y hy; simp at hy
    · split at e
      · cases e
      · cases e
      · split at e
        · cases e
        · rename_i w r hw _
          cases hu : unpack w r n with
          | none => rw [hu] at e; cases e
          | some d =>
            rw [hu] at e
            injection e with e; injection e with e1 e2; subst e1
            intro y hy
            obtain ⟨x, _, rfl⟩ := List.mem_map.1 hy
            exact ⟨_, by unfold wr64; omega, rfl⟩
  split at e
  · unfold refDi at e
    obtain ⟨h1, _, _⟩ := rnumS_v h0
    have hw : ∀ y ∈ (wordsO true (zs, false)).1, Elt y := (refPl_T h1 _).1
    split at e
    · injection e with e; injection e with e1 e2; subst e1; intro y hy; simp at hy
    · rename_i al hal
      cases hp : pickO (wordsO true (zs, false)).1 al with
      | none => rw [hp] at e; cases e
      | some o =>
        rw [hp] at e
        injection e with e; injection e with e1 e2; subst e1
        intro y hy
        exact hw y (pickO_mem (fun i hi => (unpack_r8 hal i hi).1) hp y hy)
  · injection e with e; injection e with e1 e2; subst e1; intro y hy; simp at hy

/-! ### what was told is read -/
theorem rnumS_num {u : Int} (r : List Int) (h0 : 0 ≤ u) (h1 : u < 18446744073709551616) : rnumS (num u ++ r, false) = (u, (r, false)) := by
  simp [rnumS, pnum_of_num r h0 h1]
theorem rvalS_num {x : Int} (r : List Int) (h : -9223372036854775808 ≤ x ∧ x < 9223372036854775808) : rvalS true (num (zig x) ++ r, false) = (some (tx x), (r, false)) := by
  have hz := zig_r h
  unfold rvalS
  rw [if_pos rfl, rnumS_num r hz.1 hz.2]
  dsimp only
  rw [zag_zig]
theorem refPl_zigs {l r : List Int} (h : Ri64 l) : ∀ j, j ≤ l.length → refPl true (zigs l ++ r, false) j = (TX (l.take j), (zigs (l.drop j) ++ r, false)) := by
  intro j
  induction j with
  | zero => intro _; rfl
  | succ j ih =>
    intro hj
    have hx := h _ (List.getElem_mem (l := l) (n := j) (by omega))
    have hd : l.drop j = l[j] :: l.drop (j + 1) := List.drop_eq_getElem_cons (by omega)
    rw [refPl, ih (by omega)]
    dsimp only
    rw [if_neg (by decide), hd, zigs_cons, List.append_assoc, rvalS_num _ hx]
    dsimp only
    rw [List.take_succ_eq_append_getElem (by omega)]
    unfold TX
    rw [List.map_append]
    rfl
theorem refPl_all {l r : List Int} (h : Ri64 l) : refPl true (zigs l ++ r, false) l.length = (TX l, (r, false)) := by
  rw [refPl_zigs h _ (Nat.le_refl _)]; simp [zigs]
theorem TX_append (a b : List Int) : TX (a ++ b) = TX a ++ TX b := by simp [TX]
theorem TX_rep (n : Nat) (x : Int) : TX (List.replicate n x) = List.replicate n (some (tx x)) := by simp [TX]
theorem refRn_runs : ∀ (n : Nat) {l r out : List Int} {f : Nat}, l.length ≤ n → l.length ≤ 1000000 → Ri64 l → l.length < f → refRn true (out.length + l.length) f (TX out) (runsL l ++ r, false) = some (TX (out ++ l), (r, false))
  | _, [], r, out, f + 1, _, _, _, _ => by simp [refRn, runsL_nil, TX_len]
  | 0, x :: l, _, _, _, h, _, _, _ => by simp at h
  | _, _, _, _, 0, _, _, _, h => by simp at h
  | n + 1, x :: l, r, out, f + 1, h, hl, hr, hf => by
    obtain ⟨h1, h2⟩ := hr.cons
    have hle := runLen_le x l
    simp only [List.length_cons] at h hl hf
    have c1 : ((1 + runLen x l : Nat) : Int) < 18446744073709551616 := by omega
    have e1 : rnumS (runsL (x :: l) ++ r, false) = (((1 + runLen x l : Nat) : Int), (num (zig x) ++ (runsL (l.drop (runLen x l)) ++ r), false)) := by
      rw [runsL_cons, List.append_assoc, List.append_assoc]
      exact rnumS_num _ (by omega) c1
    rw [refRn]
    simp only [e1, rvalS_num _ h1, List.length_cons, TX_len]
    rw [if_pos ⟨by omega, trivial⟩, if_neg (by omega)]
    have ht : ((1 + runLen x l : Nat) : Int).toNat = 1 + runLen x l := by omega
    rw [ht]
    have key := refRn_runs n (l := l.drop (runLen x l)) (r := r) (out := out ++ List.replicate (1 + runLen x l) x) (f := f) (by simp; omega) (by simp; omega) (h2.sub fun z hz => List.mem_of_mem_drop hz) (by simp; omega)
    have hc : (out ++ List.replicate (1 + runLen x l) x).length + (l.drop (runLen x l)).length = out.length + (l.length + 1) := by simp; omega
    rw [hc, TX_append, TX_rep] at key
    rw [key]
    have hx : List.replicate (1 + runLen x l) x ++ l.drop (runLen x l) = x :: l := by
      rw [Nat.add_comm, List.replicate_succ, ← runLen_take, List.cons_append, List.take_append_drop]
    rw [List.append_assoc, hx]
theorem refFr_frame {l : List Int} (h : Ri64 l) (hl : l.length ≤ 65535) (hn : l ≠ []) : ∃ B, refFr l.length (frameL l, false) = some (TX l, (B, false)) := by
  have hm := h _ (minL_mem hn)
  have h3 := zig_r hm
  have hw := wideL_le h
  have hne : ¬ l.length = 0 := fun h0 => hn (List.length_eq_zero_iff.1 h0)
  unfold refFr
  rw [if_neg hne]
  have e1 : rnumS (frameL l, false) = (zig (minL l), ((wideL l : Int) :: packL (wideL l) (l.map fun x => x - minL l), false)) := by
    unfold frameL; rw [if_neg hn]; exact rnumS_num _ h3.1 h3.2
  have hu := unpack_packL (m := wideL l) (far_R64 h) hw (by simpa using hl)
  simp only [List.length_map] at hu
  have hfit : (l.map fun x => x - minL l).map (fun x => x % ((2 ^ wideL l : Nat) : Int)) = l.map fun x => x - minL l := by
    rw [List.map_map]
    refine List.map_congr_left fun x hx => ?_
    have h1 := minL_le hx
    have h2 := maxL_ge hx
    have h4 := width_lt (maxL l - minL l).toNat
    simp only [Function.comp_apply]
    refine Int.emod_eq_of_lt (by omega) ?_
    have h5 : (maxL l - minL l).toNat < 2 ^ wideL l := h4
    omega
  simp only [e1, zag_zig]
  rw [if_neg (by omega), hu, hfit]
  refine ⟨(wideL l : Int) :: packL (wideL l) (l.map fun x => x - minL l), ?_⟩
  simp only [Option.map_some, List.map_map]
  congr 1
  congr 1
  unfold TX
  refine List.map_congr_left fun x hx => ?_
  simp only [Function.comp_apply]
  have hxr := h x hx
  rw [show minL l + (x - minL l) = x by omega]
  rw [show wr64 x = x by unfold wr64; omega]
theorem pickO_map {u : List Int} (hu : u.Pairwise (· < ·)) : ∀ {l : List Int}, (∀ x ∈ l, x ∈ u) → pickO (TX u) (l.map fun x => (lb u x : Int)) = some (TX l)
  | [], _ => rfl
  | x :: r, h => by
    have hx := lb_mem hu (h x (by simp))
    have hlt : lb u x < u.length := (List.getElem?_eq_some_iff.1 hx).1
    rw [List.map_cons, pickO, if_neg (by rw [TX_len]; omega), pickO_map hu (fun y hy => h y (by simp [hy]))]
    rw [Int.toNat_natCast, List.getD_eq_getElem?_getD, TX_get hx]
    rfl
theorem refDi_dict {l : List Int} (h : Ri64 l) (hl : l.length ≤ 65535) : ∃ B, refDi true l.length (dictL l, false) = some (TX l, (B, false)) := by
  have hul := uniq_len l
  have hur : Ri64 (uniq l) := h.sub fun x hx => uniq_mem.1 hx
  have c1 : ((uniq l).length : Int) < 18446744073709551616 := by omega
  have e1 : rnumS (dictL l, false) = (((uniq l).length : Int), (zigs (uniq l) ++ packL (width ((uniq l).length - 1)) (l.map fun x => (lb (uniq l) x : Int)), false)) := by
    unfold dictL; rw [List.append_assoc]; exact rnumS_num _ (by omega) c1
  have e2 : wordsO true (dictL l, false) = (TX (uniq l), (packL (width ((uniq l).length - 1)) (l.map fun x => (lb (uniq l) x : Int)), false)) := by
    unfold wordsO
    rw [e1]
    dsimp only
    rw [show min ((uniq l).length : Int).toNat 65535 = (uniq l).length by omega]
    exact refPl_all hur
  have hs := uniq_sorted l
  have hlb : ∀ x ∈ l, lb (uniq l) x < (uniq l).length := fun x hx => (List.getElem?_eq_some_iff.1 (lb_mem hs (uniq_mem.2 hx))).1
  have h64 : R64 (l.map fun x => (lb (uniq l) x : Int)) := fun z hz => by
    obtain ⟨x, hx, rfl⟩ := List.mem_map.1 hz
    have := hlb x hx
    omega
  have hw : width ((uniq l).length - 1) ≤ 64 := width_le (by omega)
  have hu := unpack_packL (m := width ((uniq l).length - 1)) h64 hw (by simpa using hl)
  simp only [List.length_map] at hu
  have hfit : (l.map fun x => (lb (uniq l) x : Int)).map (fun x => x % ((2 ^ width ((uniq l).length - 1) : Nat) : Int)) = l.map fun x => (lb (uniq l) x : Int) := by
    rw [List.map_map]
    refine List.map_congr_left fun x hx => ?_
    have h1 := hlb x hx
    have h4 := width_lt ((uniq l).length - 1)
    simp only [Function.comp_apply]
    refine Int.emod_eq_of_lt (by omega) ?_
    omega
  unfold refDi
  rw [e2]
  dsimp only
  rw [TX_len, hu, hfit]
  dsimp only
  rw [pickO_map hs (fun x hx => uniq_mem.2 hx)]
  exact ⟨_, rfl⟩
theorem refRaw_body {k : Int} {l zs : List Int} (h : Ri64 l) (hl : l.length ≤ 65535) (hb : bodyL k l = some zs) : ∃ B, refRaw true k zs l.length = some (TX l, (B, false)) := by
  unfold bodyL at hb
  unfold refRaw
  split at hb
  · injection hb with hb; subst hb
    rename_i hk
    rw [if_pos hk]
    have := refPl_all (r := []) h
    rw [List.append_nil] at this
    rw [this]
    exact ⟨_, rfl⟩
  · rename_i h1
    rw [if_neg h1]
    split at hb
    · injection hb with hb; subst hb
      rename_i hk
      rw [if_pos hk]
      have := refRn_runs l.length (r := []) (out := []) (f := l.length + 1) (Nat.le_refl _) (by omega) h (by omega)
      simp only [List.length_nil, Nat.zero_add, List.append_nil, List.nil_append] at this
      exact ⟨_, this⟩
    · rename_i h2
      rw [if_neg h2]
      split at hb
      · injection hb with hb; subst hb
        rename_i hk
        rw [if_pos hk]
        by_cases hn : l = []
        · subst hn; exact ⟨_, rfl⟩
        · exact refFr_frame h hl hn
      · rename_i h3
        rw [if_neg h3]
        split at hb
        · injection hb with hb; subst hb
          rename_i hk
          rw [if_pos hk]; exact refDi_dict h hl
        · cases hb
/-- the document's own reading is ours -/
theorem refGet_dec {b : List Int} {c : Int} (h8 : R8 b) (hr : ∀ l, decL b c = some l → Ri64 l) : refGet true b c = (decL b c).map TX := by
  cases hd : decL b c with
  | some l =>
    have hl := hr l hd
    obtain ⟨k, zs, rfl, ht, hc⟩ := decL_some hd
    have hl6 : l.length ≤ 65535 := by
      unfold tellL at ht
      split at ht
      · cases ht
      · omega
    have hb : bodyL k l = some zs := by
      unfold tellL at ht
      rw [if_neg (by omega)] at ht
      split at ht
      · rename_i z hz
        injection ht with ht
        injection ht with _ ht
        rw [hz, ht]
      · cases ht
    obtain ⟨B, hB⟩ := refRaw_body hl hl6 hb
    unfold refGet
    dsimp only
    rw [if_pos (by omega), show c.toNat = l.length by omega, hB]
    dsimp only
    rw [if_pos ⟨rfl, by rw [refTell_TX hl]; exact ht, TX_len l, .inl rfl⟩]
    rfl
  | none =>
    cases hg : refGet true b c with
    | none => rfl
    | some L =>
      exfalso
      unfold refGet at hg
      split at hg
      · cases hg
      · rename_i k zs
        split at hg
        · rename_i hc
          cases hraw : refRaw true k zs c.toNat with
          | none => rw [hraw] at hg; cases hg
          | some p =>
            obtain ⟨out, s⟩ := p
            rw [hraw] at hg
            dsimp only at hg
            split at hg
            · rename_i hcond
              obtain ⟨l, hl, rfl⟩ := refRaw_T (fun z hz => h8 z (by simp [hz])) hraw
              rw [refTell_TX hl, TX_len] at hcond
              have := decL_tell hl hcond.2.1
              rw [show (l.length : Int) = c by omega] at this
              rw [hd] at this
              cases this
            · cases hg
        · cases hg
/-! ### the best -/
end Go.Den
