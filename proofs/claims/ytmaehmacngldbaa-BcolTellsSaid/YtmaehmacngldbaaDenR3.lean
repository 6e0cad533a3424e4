/- Den: the document's reading of columns of bytes is the same. -/
import Derived.Test.YtmaehmacngldbaaDenR2
set_option linter.unusedVariables false
set_option linter.unusedSimpArgs false
namespace Go.Den
open Go Go.RowKit
theorem rnumS_num {u : Int} (r : List Int) (h0 : 0 ≤ u) (h1 : u < 18446744073709551616) : rnumS (num u ++ r, false) = (u, (r, false)) := by
  simp [rnumS, pnum_of_num r h0 h1]
theorem rvalS_told {o : RB'} (r : List Int) (h : (bz o).length ≤ 64) : rvalS false (toldO false o ++ r, false) = (some (bz o), (r, false)) := by
  have e : toldO false o ++ r = num ((bz o).length : Int) ++ (bz o ++ r) := by simp [toldO]
  unfold rvalS
  rw [e, rnumS_num (bz o ++ r) (show (0 : Int) ≤ ((bz o).length : Int) by omega) (by omega)]
  simp only [Bool.false_eq_true, if_false, false_or]
  rw [if_neg (by rw [List.length_append]; omega)]
  simp
theorem refPl_told {L : List RB'} {r : List Int} (h : ∀ o ∈ L, (bz o).length ≤ 64) : ∀ j, j ≤ L.length → refPl false (toldL false L ++ r, false) j = ((L.take j).map nz, (toldL false (L.drop j) ++ r, false)) := by
  intro j
  induction j with
  | zero => intro _; simp [refPl]
  | succ j ih =>
    intro hj
    have hz := h _ (List.getElem_mem (l := L) (n := j) (by omega))
    have hd : L.drop j = L[j] :: L.drop (j + 1) := by rw [List.drop_eq_getElem_cons (by omega)]
    have hr : rvalS false (toldL false (L.drop j) ++ r, false) = (some (bz L[j]), (toldL false (L.drop (j + 1)) ++ r, false)) := by
      rw [hd, toldL_cons, List.append_assoc]
      exact rvalS_told _ hz
    rw [refPl, ih (by omega)]
    simp only [Bool.false_eq_true, if_false, hr]
    rw [List.take_succ_eq_append_getElem (by omega), List.map_append]
    rfl
theorem refPl_all {L : List RB'} {r : List Int} (h : ∀ o ∈ L, (bz o).length ≤ 64) : refPl false (toldL false L ++ r, false) L.length = (L.map nz, (r, false)) := by
  rw [refPl_told h _ (Nat.le_refl _)]; simp [toldL]
theorem refRn_runs : ∀ (n : Nat) {L : List RB'} {r : List Int} {out : List RB'} {f : Nat}, L.length ≤ n → L.length ≤ 1000000 → (∀ o ∈ L, (bz o).length ≤ 64) → L.length < f → refRn false (out.length + L.length) f out (rnsO false L ++ r, false) = some (out ++ L.map nz, (r, false))
  | _, [], r, out, f + 1, _, _, _, _ => by simp [refRn, rnsO_nil]
  | 0, x :: l, _, _, _, h, _, _, _ => by simp at h
  | _, _, _, _, 0, _, _, _, h => by simp at h
  | n + 1, x :: l, r, out, f + 1, h, hl, hr, hf => by
    have hle := rnO_le x l
    simp only [List.length_cons] at h hl hf
    have c1 : ((1 + rnO x l : Nat) : Int) < 18446744073709551616 := by omega
    have e1 : rnumS (rnsO false (x :: l) ++ r, false) = (((1 + rnO x l : Nat) : Int), (toldO false x ++ (rnsO false (l.drop (rnO x l)) ++ r), false)) := by
      rw [rnsO_cons, List.append_assoc, List.append_assoc]
      exact rnumS_num _ (by omega) c1
    have e2 : rvalS false (toldO false x ++ (rnsO false (l.drop (rnO x l)) ++ r), false) = (some (bz x), (rnsO false (l.drop (rnO x l)) ++ r, false)) := rvalS_told _ (hr x (by simp))
    rw [refRn]
    simp only [e1, e2, List.length_cons]
    rw [if_pos (by simp), if_neg (by omega)]
    have ht : ((1 + rnO x l : Nat) : Int).toNat = 1 + rnO x l := by omega
    rw [ht]
    have key := refRn_runs n (L := l.drop (rnO x l)) (r := r) (out := out ++ List.replicate (1 + rnO x l) (some (bz x))) (f := f) (by simp; omega) (by simp; omega) (fun z hz => hr z (by simp [List.mem_of_mem_drop hz])) (by simp; omega)
    have hc : (out ++ List.replicate (1 + rnO x l) (some (bz x))).length + (l.drop (rnO x l)).length = out.length + (l.length + 1) := by simp; omega
    rw [hc] at key
    rw [key]
    have hx : List.replicate (1 + rnO x l) (some (bz x)) ++ (l.drop (rnO x l)).map nz = (x :: l).map nz := by
      rw [Nat.add_comm, List.replicate_succ, List.map_cons, show (some (bz x) : RB') = nz x from rfl, ← rnO_take, List.cons_append, ← List.map_append, List.take_append_drop]
    rw [List.append_assoc, hx]
theorem refDi_dict {L : List RB'} (h : ∀ o ∈ L, (bz o).length ≤ 64) (hl : L.length ≤ 65535) : ∃ r, refDi false L.length (dictO false L, false) = some (L.map nz, (r, false)) := by
  have hul := unlikeO_len L
  have hur : ∀ o ∈ unlikeO L, (bz o).length ≤ 64 := fun o ho => h o (unlikeO_sub ho)
  have c1 : ((unlikeO L).length : Int) < 18446744073709551616 := by omega
  have e1 : rnumS (dictO false L, false) = (((unlikeO L).length : Int), (toldL false (unlikeO L) ++ packL (width ((unlikeO L).length - 1)) (idxsO L), false)) := by
    unfold dictO; rw [List.append_assoc]; exact rnumS_num _ (by omega) c1
  have e2 : wordsO false (dictO false L, false) = ((unlikeO L).map nz, (packL (width ((unlikeO L).length - 1)) (idxsO L), false)) := by
    unfold wordsO
    rw [e1]
    dsimp only
    rw [Int.toNat_natCast, Nat.min_eq_left (by omega)]
    exact refPl_all hur
  have hix : ∀ o ∈ L, idxO (unlikeO L) (bz o) < (unlikeO L).length := fun o ho => by
    obtain ⟨y, hy, _⟩ := idxO_mem ((unlikeO_mem L (bz o)).2 ⟨o, ho, rfl⟩)
    exact (List.getElem?_eq_some_iff.1 hy).1
  have h64 : R64 (idxsO L) := fun z hz => by
    obtain ⟨o, ho, rfl⟩ := List.mem_map.1 hz
    have := hix o ho
    omega
  have hw : width ((unlikeO L).length - 1) ≤ 64 := width_le (by omega)
  have hil : (idxsO L).length = L.length := by simp [idxsO]
  have hu := unpack_packL (m := width ((unlikeO L).length - 1)) h64 hw (by rw [hil]; exact hl)
  rw [hil] at hu
  have hfit : (idxsO L).map (fun x => x % ((2 ^ width ((unlikeO L).length - 1) : Nat) : Int)) = idxsO L := by
    unfold idxsO
    rw [List.map_map]
    refine List.map_congr_left fun o ho => ?_
    have h1 := hix o ho
    have h4 := width_lt ((unlikeO L).length - 1)
    simp only [Function.comp_apply]
    refine Int.emod_eq_of_lt (by omega) ?_
    omega
  have hp := pickO_idx (w := unlikeO L) (l := L) fun o ho => (unlikeO_mem L (bz o)).2 ⟨o, ho, rfl⟩
  refine ⟨packL (width ((unlikeO L).length - 1)) (idxsO L), ?_⟩
  unfold refDi
  rw [e2]
  simp only [List.length_map]
  rw [hu, hfit]
  show (pickO ((unlikeO L).map nz) (L.map fun o => (idxO (unlikeO L) (bz o) : Int))).map _ = _
  rw [hp]
  rfl
theorem refRaw_body {k : Int} {L : List RB'} {zs : List Int} (h : ∀ o ∈ L, (bz o).length ≤ 64) (hl : L.length ≤ 65535) (hb : refBody false k L = some zs) : ∃ r, refRaw false k zs L.length = some (L.map nz, (r, false)) := by
  unfold refBody at hb
  unfold refRaw
  split at hb
  · injection hb with hb; subst hb
    rename_i hk
    rw [if_pos hk]
    have := refPl_all (r := []) h
    rw [List.append_nil] at this
    exact ⟨[], by rw [this]⟩
  · rename_i h1
    rw [if_neg h1]
    split at hb
    · injection hb with hb; subst hb
      rename_i hk
      rw [if_pos hk]
      have := refRn_runs L.length (r := []) (out := []) (f := L.length + 1) (Nat.le_refl _) (by omega) h (by omega)
      simp only [List.length_nil, Nat.zero_add, List.append_nil, List.nil_append] at this
      exact ⟨[], this⟩
    · rename_i h2
      rw [if_neg h2]
      split at hb
      · simp at hb
      · rename_i h3
        rw [if_neg h3]
        split at hb
        · injection hb with hb; subst hb
          rename_i hk
          rw [if_pos hk]; exact refDi_dict h hl
        · cases hb
theorem refGet_tell {k : Int} {L : List RB'} {b : List Int} (h : shortO L = true) (hb : refTell false k L = some b) : refGet false b L.length = some (L.map nz) := by
  have hb0 := hb
  unfold refTell at hb
  split at hb
  · cases hb
  · rename_i hl
    rw [Option.map_eq_some_iff] at hb
    obtain ⟨zs, hz, rfl⟩ := hb
    obtain ⟨r, hr⟩ := refRaw_body (short_len.1 h) (by omega) hz
    have ht : ((L.length : Int)).toNat = L.length := by omega
    have e := nz_bz L
    unfold refGet
    simp only [ht, hr]
    rw [if_pos (by omega), if_pos ⟨trivial, by rw [refTell_of e]; exact hb0, List.length_map .., .inr (by rw [shortO_of e]; exact h)⟩]
theorem refGet_some {b : List Int} {L : List RB'} {count : Int} (h : refGet false b count = some L) : ∃ k zs, b = k :: zs ∧ refTell false k L = some b ∧ shortO L = true ∧ (L.length : Int) = count := by
  unfold refGet at h
  split at h
  · cases h
  · rename_i k zs
    split at h
    · rename_i hc
      split at h
      · cases h
      · split at h
        · rename_i hq
          injection h with h
          subst h
          obtain ⟨_, q1, q2, q3⟩ := hq
          refine ⟨k, zs, rfl, q1, ?_, by omega⟩
          rcases q3 with q3 | q3
          · cases q3
          · exact q3
        · cases h
    · cases h
/-- the document's reading and the program's are one -/
theorem refGet_decB (b : List Int) (count : Int) : refGet false b count = decB b count := by
  cases hg : refGet false b count with
  | some M =>
    obtain ⟨k, zs, rfl, ht, hs, hc⟩ := refGet_some hg
    have h1 := refGet_tell hs ht
    rw [hc, hg] at h1
    have h2 := decB_tell hs ht
    rw [hc] at h2
    rw [h2, h1]
  | none =>
    cases hd : decB b count with
    | none => rfl
    | some L =>
      obtain ⟨k, zs, rfl, ht, hs, hc⟩ := decB_some hd
      have h1 := refGet_tell hs ht
      rw [hc, hg] at h1
      cases h1
end Go.Den
