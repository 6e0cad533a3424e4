/- Den: columns of bytes, how they are read, in plain words. -/
import Derived.Test.YtmaehmacngldbaaDenP
set_option linter.unusedVariables false
set_option linter.unusedSimpArgs false
namespace Go.Den
open Go Go.RowKit
def rnumB : Option (List Int) → Int × Option (List Int)
  | none => (0, none)
  | some zs => match pnum 0 0 zs with | none => (0, none) | some (v, r) => (v, some r)
def rbyt : Option (List Int) → RB' × Option (List Int)
  | none => (none, none)
  | some zs => match pnum 0 0 zs with | none => (none, none) | some (n, r) => if n ≤ r.length ∧ n ≤ 64 then (some (r.take n.toNat), some (r.drop n.toNat)) else (none, none)
def unpB : Nat → Option (List Int) → List RB' × Option (List Int)
  | 0, s => ([], s)
  | j + 1, s => ((unpB j s).1 ++ [(rbyt (unpB j s).2).1], (rbyt (unpB j s).2).2)
def unrB (count : Nat) : Nat → List RB' → Option (List Int) → Option (List RB') × Option (List Int)
  | 0, out, s => (some out, s)
  | f + 1, out, s =>
    if out.length < count then
      (if (rbyt (rnumB s).2).2 = none ∨ (rnumB s).1 = 0 ∨ ((count - out.length : Nat) : Int) < (rnumB s).1 then (none, (rbyt (rnumB s).2).2)
       else unrB count f (out ++ List.replicate (rnumB s).1.toNat (rbyt (rnumB s).2).1) (rbyt (rnumB s).2).2)
    else (some out, s)
theorem rnumB_num {u : Int} (r : List Int) (h0 : 0 ≤ u) (h1 : u < 18446744073709551616) : rnumB (some (num u ++ r)) = (u, some r) := by
  simp [rnumB, pnum_of_num r h0 h1]
theorem rbyt_told {o : RB'} (r : List Int) (h : (bz o).length ≤ 64) : rbyt (some (toldO false o ++ r)) = (some (bz o), some r) := by
  have e : toldO false o ++ r = num ((bz o).length : Int) ++ (bz o ++ r) := by simp [toldO]
  rw [e]
  simp only [rbyt, pnum_of_num (bz o ++ r) (show (0 : Int) ≤ ((bz o).length : Int) by omega) (by omega)]
  rw [if_pos ⟨by rw [List.length_append]; omega, by omega⟩]
  simp
/-- what is read has no nil -/
def nz (o : RB') : RB' := some (bz o)
theorem unpB_told {L : List RB'} {r : List Int} (h : ∀ o ∈ L, (bz o).length ≤ 64) : ∀ j, j ≤ L.length → unpB j (some (toldL false L ++ r)) = ((L.take j).map nz, some (toldL false (L.drop j) ++ r)) := by
  intro j
  induction j with
  | zero => intro _; simp [unpB]
  | succ j ih =>
    intro hj
    have hz := h _ (List.getElem_mem (l := L) (n := j) (by omega))
    have hd : L.drop j = L[j] :: L.drop (j + 1) := by rw [List.drop_eq_getElem_cons (by omega)]
    have hr : rbyt (some (toldL false (L.drop j) ++ r)) = (some (bz L[j]), some (toldL false (L.drop (j + 1)) ++ r)) := by
      rw [hd, toldL_cons, List.append_assoc]
      exact rbyt_told _ hz
    rw [unpB, ih (by omega)]
    simp only [hr]
    rw [List.take_succ_eq_append_getElem (by omega), List.map_append]
    rfl
theorem unpB_all {L : List RB'} {r : List Int} (h : ∀ o ∈ L, (bz o).length ≤ 64) : unpB L.length (some (toldL false L ++ r)) = (L.map nz, some r) := by
  rw [unpB_told h _ (Nat.le_refl _)]; simp [toldL]
theorem rnO_take (x : RB') (l : List RB') : (l.take (rnO x l)).map nz = List.replicate (rnO x l) (nz x) := by
  refine List.ext_getElem? fun j => ?_
  by_cases h : j < rnO x l
  · obtain ⟨y, hy, he⟩ := rnO_get h
    rw [List.getElem?_map, List.getElem?_take_of_lt h, hy, List.getElem?_replicate, if_pos h]
    simp [nz, he]
  · rw [List.getElem?_map, List.getElem?_take_eq_none (by omega), List.getElem?_replicate, if_neg h]
    rfl
theorem unrB_runs : ∀ (n : Nat) {L : List RB'} {r : List Int} {out : List RB'} {f : Nat}, L.length ≤ n → L.length ≤ 1000000 → (∀ o ∈ L, (bz o).length ≤ 64) → L.length < f → unrB (out.length + L.length) f out (some (rnsO false L ++ r)) = (some (out ++ L.map nz), some r)
  | _, [], r, out, f + 1, _, _, _, _ => by simp [unrB, rnsO_nil]
  | 0, x :: l, _, _, _, h, _, _, _ => by simp at h
  | _, _, _, _, 0, _, _, _, h => by simp at h
  | n + 1, x :: l, r, out, f + 1, h, hl, hr, hf => by
    have hle := rnO_le x l
    simp only [List.length_cons] at h hl hf
    have c1 : ((1 + rnO x l : Nat) : Int) < 18446744073709551616 := by omega
    have e1 : rnumB (some (rnsO false (x :: l) ++ r)) = (((1 + rnO x l : Nat) : Int), some (toldO false x ++ (rnsO false (l.drop (rnO x l)) ++ r))) := by
      rw [rnsO_cons, List.append_assoc, List.append_assoc]
      exact rnumB_num _ (by omega) c1
    have e2 : rbyt (some (toldO false x ++ (rnsO false (l.drop (rnO x l)) ++ r))) = (some (bz x), some (rnsO false (l.drop (rnO x l)) ++ r)) := rbyt_told _ (hr x (by simp))
    rw [unrB]
    simp only [e1, e2, List.length_cons]
    rw [if_pos (by omega), if_neg (by simp; omega)]
    have ht : ((1 + rnO x l : Nat) : Int).toNat = 1 + rnO x l := by omega
    rw [ht]
    have key := unrB_runs n (L := l.drop (rnO x l)) (r := r) (out := out ++ List.replicate (1 + rnO x l) (some (bz x))) (f := f) (by simp; omega) (by simp; omega) (fun z hz => hr z (by simp [List.mem_of_mem_drop hz])) (by simp; omega)
    have hc : (out ++ List.replicate (1 + rnO x l) (some (bz x))).length + (l.drop (rnO x l)).length = out.length + (l.length + 1) := by simp; omega
    rw [hc] at key
    rw [key]
    have hx : List.replicate (1 + rnO x l) (some (bz x)) ++ (l.drop (rnO x l)).map nz = (x :: l).map nz := by
      rw [Nat.add_comm, List.replicate_succ, List.map_cons, show (some (bz x) : RB') = nz x from rfl, ← rnO_take, List.cons_append, ← List.map_append, List.take_append_drop]
    rw [List.append_assoc, hx]
def restB : Option (List Int) → List Int
  | none => []
  | some r => r
def undB (count : Nat) (s : Option (List Int)) : List RB' :=
  if (rnumB s).2 = none ∨ (count : Int) < (rnumB s).1 then [] else
    (pickO (unpB (rnumB s).1.toNat (rnumB s).2).1 ((unpack (width ((unpB (rnumB s).1.toNat (rnumB s).2).1.length - 1)) (restB (unpB (rnumB s).1.toNat (rnumB s).2).2) count).getD [])).getD []
def rawB (k : Int) (zs : List Int) (count : Nat) : List RB' :=
  if k = 1 then (unpB (min count (zs.length + 1)) (some zs)).1 else if k = 2 then (unrB count (count + 1) [] (some zs)).1.getD [] else if k = 4 then undB count (some zs) else []
/-- what Decode tells -/
def decB (b : List Int) (count : Int) : Option (List RB') :=
  match b with
  | [] => none
  | k :: zs => if 0 ≤ count ∧ count ≤ 65535 then (if shortO (rawB k zs count.toNat) = true ∧ refTell false k (rawB k zs count.toNat) = some (k :: zs) ∧ (rawB k zs count.toNat).length = count.toNat then some (rawB k zs count.toNat) else none) else none
theorem pickO_idx {w : List RB'} : ∀ {l : List RB'}, (∀ o ∈ l, ∃ y ∈ w, bz y = bz o) → pickO (w.map nz) (l.map fun o => (idxO w (bz o) : Int)) = some (l.map nz)
  | [], _ => rfl
  | x :: r, h => by
    obtain ⟨o, ho, hb⟩ := idxO_mem (h x (by simp))
    have hlt : idxO w (bz x) < w.length := (List.getElem?_eq_some_iff.1 ho).1
    rw [List.map_cons, pickO, if_neg (by rw [List.length_map]; omega), pickO_idx (fun y hy => h y (by simp [hy]))]
    simp [List.getD_eq_getElem?_getD, ho, nz, hb]
theorem undB_dict {L : List RB'} (h : ∀ o ∈ L, (bz o).length ≤ 64) (hl : L.length ≤ 65535) : undB L.length (some (dictO false L)) = L.map nz := by
  have hul := unlikeO_len L
  have hur : ∀ o ∈ unlikeO L, (bz o).length ≤ 64 := fun o ho => h o (unlikeO_sub ho)
  have c1 : ((unlikeO L).length : Int) < 18446744073709551616 := by omega
  have e1 : rnumB (some (dictO false L)) = (((unlikeO L).length : Int), some (toldL false (unlikeO L) ++ packL (width ((unlikeO L).length - 1)) (idxsO L))) := by
    unfold dictO; rw [List.append_assoc]; exact rnumB_num _ (by omega) c1
  have e2 := unpB_all (L := unlikeO L) (r := packL (width ((unlikeO L).length - 1)) (idxsO L)) hur
  have hix : ∀ o ∈ L, idxO (unlikeO L) (bz o) < (unlikeO L).length := fun o ho => by
    obtain ⟨y, hy, _⟩ := idxO_mem ((unlikeO_mem L (bz o)).2 ⟨o, ho, rfl⟩)
    exact (List.getElem?_eq_some_iff.1 hy).1
  have h64 : R64 (idxsO L) := fun z hz => by
    obtain ⟨o, ho, rfl⟩ := List.mem_map.1 hz
    have := hix o ho
    omega
  have hw : width ((unlikeO L).length - 1) ≤ 64 := width_le (by omega)
  have hil : (idxsO L).length = L.length := by simp [idxsO]
  have hu := unpack_packL (m := width ((unlikeO L).length - 1)) h64 hw (by rw [hil]; exact hl)
  rw [hil] at hu
  have hfit : (idxsO L).map (fun x => x % ((2 ^ width ((unlikeO L).length - 1) : Nat) : Int)) = idxsO L := by
    unfold idxsO
    rw [List.map_map]
    refine List.map_congr_left fun o ho => ?_
    have h1 := hix o ho
    have h4 := width_lt ((unlikeO L).length - 1)
    simp only [Function.comp_apply]
    refine Int.emod_eq_of_lt (by omega) ?_
    omega
  have hp := pickO_idx (w := unlikeO L) (l := L) fun o ho => (unlikeO_mem L (bz o)).2 ⟨o, ho, rfl⟩
  unfold undB
  simp only [e1, Int.toNat_natCast, e2, restB, List.length_map]
  rw [if_neg (by simp; omega), hu, hfit]
  show (pickO ((unlikeO L).map nz) (L.map fun o => (idxO (unlikeO L) (bz o) : Int))).getD [] = _
  rw [hp]
  rfl
/-! ### what is told hangs on the bytes alone -/
theorem toldL_of {L M : List RB'} (h : L.map bz = M.map bz) : toldL false L = toldL false M := by
  have e : ∀ L : List RB', toldL false L = (L.map bz).flatMap fun x => num (x.length : Int) ++ x := fun L => by
    unfold toldL
    rw [List.flatMap_map]
    rfl
  rw [e, e, h]
theorem dictO_uniq (L : List RB') : dictO false L = num ((uniqB L).length : Int) ++ toldL false ((uniqB L).map some) ++ packL (width ((uniqB L).length - 1)) ((L.map bz).map fun x => (lbB (uniqB L) x : Int)) := by
  have e1 : toldL false ((uniqB L).map some) = toldL false (unlikeO L) := toldL_of (by rw [List.map_map, uniqB_eq]; exact List.map_id _)
  have e2 : ((L.map bz).map fun x => (lbB (uniqB L) x : Int)) = idxsO L := by
    rw [List.map_map]
    exact List.map_congr_left fun o ho => by simp only [Function.comp_apply]; rw [lbB_idx ⟨o, ho, rfl⟩]
  rw [e1, e2, uniqB_len]
  rfl
theorem dictO_of {L M : List RB'} (h : L.map bz = M.map bz) : dictO false L = dictO false M := by
  have e : uniqB L = uniqB M := by unfold uniqB; rw [h]
  rw [dictO_uniq, dictO_uniq, e, h]
theorem rnO_of (x : RB') (l : List RB') : rnO x l = ((l.map bz).takeWhile fun y => decide (y = bz x)).length := by
  unfold rnO
  rw [List.takeWhile_map, List.length_map]
  rfl
theorem rnsO_of : ∀ (n : Nat) {L M : List RB'}, L.length ≤ n → L.map bz = M.map bz → rnsO false L = rnsO false M
  | _, [], M, _, h => by
    have : M = [] := by simpa using h.symm
    rw [this]
  | 0, x :: r, _, hn, _ => by simp at hn
  | n + 1, x :: r, M, hn, h => by
    cases M with
    | nil => simp at h
    | cons y s =>
      simp only [List.map_cons, List.cons.injEq] at h
      have e1 : rnO x r = rnO y s := by rw [rnO_of, rnO_of, h.1, h.2]
      have e2 : toldO false x = toldO false y := by simp only [toldO, Bool.false_eq_true, if_false, h.1]
      simp only [List.length_cons] at hn
      rw [rnsO_cons, rnsO_cons, e1, e2, rnsO_of n (L := r.drop (rnO y s)) (M := s.drop (rnO y s)) (by simp; omega) (by rw [List.map_drop, List.map_drop, h.2])]
theorem len_of {L M : List RB'} (h : L.map bz = M.map bz) : L.length = M.length := by
  have := congrArg List.length h
  simpa using this
theorem refBody_of {k : Int} {L M : List RB'} (h : L.map bz = M.map bz) : refBody false k L = refBody false k M := by
  unfold refBody
  rw [toldL_of h, rnsO_of L.length (Nat.le_refl _) h, dictO_of h]
  simp
theorem refTell_of {k : Int} {L M : List RB'} (h : L.map bz = M.map bz) : refTell false k L = refTell false k M := by
  unfold refTell
  rw [refBody_of h, len_of h]
theorem nz_bz (L : List RB') : (L.map nz).map bz = L.map bz := by
  rw [List.map_map]
  exact List.map_congr_left fun o _ => rfl
theorem shortO_of {L M : List RB'} (h : L.map bz = M.map bz) : shortO L = shortO M := by
  have e : ∀ L : List RB', shortO L = (L.map bz).all fun x => decide (x.length ≤ 64) := fun L => by
    unfold shortO
    rw [List.all_map]
    rfl
  rw [e, e, h]
/-! ### what was told is read -/
theorem toldL_ge (L : List RB') : L.length ≤ (toldL false L).length := by
  induction L with
  | nil => simp [toldL]
  | cons x r ih =>
    have h4 := num_pos ((bz x).length : Int)
    rw [toldL_cons, List.length_append, List.length_cons]
    have : (num ((bz x).length : Int)).length ≤ (toldO false x).length := by simp [toldO]
    omega
theorem rawB_body {k : Int} {L : List RB'} {zs : List Int} (h : ∀ o ∈ L, (bz o).length ≤ 64) (hl : L.length ≤ 65535) (hb : refBody false k L = some zs) : rawB k zs L.length = L.map nz := by
  unfold refBody at hb
  unfold rawB
  split at hb
  · injection hb with hb; subst hb
    rename_i hk
    rw [if_pos hk]
    have := toldL_ge L
    rw [Nat.min_eq_left (by omega)]
    have := unpB_all (r := []) h
    rw [List.append_nil] at this
    rw [this]
  · rename_i h1
    rw [if_neg h1]
    split at hb
    · injection hb with hb; subst hb
      rename_i hk
      rw [if_pos hk]
      have := unrB_runs L.length (r := []) (out := []) (f := L.length + 1) (Nat.le_refl _) (by omega) h (by omega)
      simp only [List.length_nil, Nat.zero_add, List.append_nil, List.nil_append] at this
      rw [this]; rfl
    · rename_i h2
      rw [if_neg h2]
      split at hb
      · simp at hb
      · rename_i h3
        split at hb
        · injection hb with hb; subst hb
          rename_i hk
          rw [if_pos hk]; exact undB_dict h hl
        · cases hb
theorem short_len {L : List RB'} : shortO L = true ↔ ∀ o ∈ L, (bz o).length ≤ 64 := by simp [shortO]
theorem decB_tell {k : Int} {L : List RB'} {b : List Int} (h : shortO L = true) (hb : refTell false k L = some b) : decB b L.length = some (L.map nz) := by
  have hb0 := hb
  unfold refTell at hb
  split at hb
  · cases hb
  · rename_i hl
    rw [Option.map_eq_some_iff] at hb
    obtain ⟨zs, hz, rfl⟩ := hb
    have hr := rawB_body (short_len.1 h) (by omega) hz
    have ht : ((L.length : Int)).toNat = L.length := by omega
    have e := nz_bz L
    unfold decB
    simp only [ht, hr]
    rw [if_pos (by omega), if_pos ⟨by rw [shortO_of e]; exact h, by rw [refTell_of e]; exact hb0, List.length_map ..⟩]
theorem decB_some {b : List Int} {L : List RB'} {count : Int} (h : decB b count = some L) : ∃ k zs, b = k :: zs ∧ refTell false k L = some b ∧ shortO L = true ∧ (L.length : Int) = count := by
  unfold decB at h
  split at h
  · cases h
  · rename_i k zs
    split at h
    · rename_i hc
      split at h
      · rename_i hq
        injection h with h
        subst h
        exact ⟨k, zs, rfl, hq.2.1, hq.1, by have := hq.2.2; omega⟩
      · cases h
    · cases h
end Go.Den
