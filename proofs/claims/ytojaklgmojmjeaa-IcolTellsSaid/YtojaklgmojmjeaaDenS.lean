/- Den: slices.Sort and slices.Compact of an own row of ints (at whatever int64 type), by the kit's shelf. For seats that have them (its text: <Ytojaklgmojmjeaa>DenS). -/
import Derived.Test.YtojaklgmojmjeaaDenK3
import Derived.Shelf.SortM.Plain
import Derived.Shelf.SortM.SortNone
import Derived.Shelf.SlicesE.Compact
import Derived.Lib.Walk
namespace Go.Den
open Go.Proofs Go.RowKit Go.Lib

def toInts : List (List PV) → Option (List Int)
  | [] => some []
  | [.int .i64 n] :: r => match toInts r with | some l => some (n :: l) | none => none
  | _ => none
def rowI (zs : List Int) : List (List PV) := zs.map fun z => [.int .i64 z]
theorem toInts_rowI (zs : List Int) : toInts (rowI zs) = some zs := by
  induction zs with
  | nil => rfl
  | cons z r ih => unfold rowI at ih ⊢; simp only [List.map_cons, toInts, ih]
theorem toInts_eq : ∀ {xs : List (List PV)} {zs : List Int}, toInts xs = some zs → xs = rowI zs
  | [], zs, h => by simp [toInts] at h; subst h; rfl
  | x :: r, zs, h => by
    unfold toInts at h
    split at h
    · rename_i h0; cases h0
    · rename_i n r' h0
      injection h0 with h1 h2
      subst h1; subst h2
      split at h
      · rename_i l hl
        injection h with h
        subst h
        rw [toInts_eq hl]; rfl
      · cases h
    · cases h

/-! ### the order -/
def insZ (x : Int) : List Int → List Int
  | [] => [x]
  | y :: r => if x ≤ y then x :: y :: r else y :: insZ x r
def sortZ : List Int → List Int
  | [] => []
  | x :: r => insZ x (sortZ r)
theorem insZ_perm (x : Int) : ∀ l : List Int, (insZ x l).Perm (x :: l)
  | [] => .refl _
  | y :: r => by
    unfold insZ
    split
    · exact .refl _
    · exact ((insZ_perm x r).cons y).trans (.swap x y r)
theorem sortZ_perm : ∀ l : List Int, (sortZ l).Perm l
  | [] => .refl _
  | x :: r => (insZ_perm x (sortZ r)).trans ((sortZ_perm r).cons x)
theorem insZ_sorted (x : Int) : ∀ {l : List Int}, l.Pairwise (· ≤ ·) → (insZ x l).Pairwise (· ≤ ·)
  | [], _ => by simp [insZ]
  | y :: r, h => by
    rw [List.pairwise_cons] at h
    unfold insZ
    split
    · rename_i hxy
      refine List.Pairwise.cons (fun z hz => ?_) (List.pairwise_cons.2 h)
      rcases List.mem_cons.1 hz with rfl | hz
      · exact hxy
      · exact Int.le_trans hxy (h.1 z hz)
    · rename_i hxy
      refine List.Pairwise.cons (fun z hz => ?_) (insZ_sorted x h.2)
      rcases List.mem_cons.1 ((insZ_perm x r).mem_iff.1 hz) with rfl | hz
      · omega
      · exact h.1 z hz
theorem sortZ_sorted : ∀ l : List Int, (sortZ l).Pairwise (· ≤ ·)
  | [] => List.Pairwise.nil
  | x :: r => insZ_sorted x (sortZ_sorted r)
theorem sortZ_eq (l : List Int) : (l.mergeSort fun x y => decide (x ≤ y)) = sortZ l := by
  have tr : ∀ a b c : Int, decide (a ≤ b) = true → decide (b ≤ c) = true → decide (a ≤ c) = true := fun a b c h1 h2 => by simp at *; omega
  have to : ∀ a b : Int, (decide (a ≤ b) || decide (b ≤ a)) = true := fun a b => by simp; omega
  refine List.Perm.eq_of_pairwise (le := fun a b => a ≤ b) (fun a b _ _ h1 h2 => Int.le_antisymm h1 h2) ((List.pairwise_mergeSort tr to l).imp fun h => by simpa using h) (sortZ_sorted l) ((List.mergeSort_perm l _).trans (sortZ_perm l).symm)

/-! ### no two alike behind each other -/
def cpZ : Option Int → List Int → List Int
  | _, [] => []
  | p, x :: r => if p = some x then cpZ p r else x :: cpZ (some x) r
def lastO : Option Int → List Int → Option Int
  | p, [] => p
  | _, x :: r => lastO (some x) r
theorem cpZ_snoc (x : Int) : ∀ (l : List Int) (p : Option Int), cpZ p (l ++ [x]) = cpZ p l ++ (if lastO p l = some x then [] else [x])
  | [], p => by by_cases h : p = some x <;> simp [cpZ, lastO, h]
  | y :: r, p => by
    simp only [List.cons_append, cpZ, lastO]
    split
    · rename_i h; subst h; exact cpZ_snoc x r _
    · rw [cpZ_snoc x r]; rfl
theorem lastO_take (d : Array Int) : ∀ (m : Nat), m < d.size → lastO none (d.toList.take (m + 1)) = some d[m]! := by
  have gen : ∀ (l : List Int) (p : Option Int) (m : Nat) (h : m < l.length), lastO p (l.take (m + 1)) = some l[m] := fun l => by
    induction l with
    | nil => intro p m h; simp at h
    | cons x r ih =>
      intro p m h
      cases m with
      | zero => simp [lastO]
      | succ m =>
        simp only [List.take_succ_cons, lastO, List.getElem_cons_succ]
        exact ih _ m (by simpa using h)
  intro m hm
  rw [gen d.toList none m (by simpa using hm)]
  simp [getElem!_pos, hm]
theorem compactUpTo_cpZ (d : Array Int) : ∀ m, m ≤ d.size → compactUpTo d m = cpZ none (d.toList.take m) := by
  intro m
  induction m with
  | zero => intro _; simp [compactUpTo, cpZ]
  | succ m ih =>
    intro hm
    rw [compactUpTo_succ, ih (by omega)]
    have ht : d.toList.take (m + 1) = d.toList.take m ++ [d[m]!] := by
      rw [List.take_succ_eq_append_getElem (by simp; omega)]
      simp [getElem!_pos, show m < d.size by omega]
    rw [ht, cpZ_snoc]
    congr 1
    cases m with
    | zero => simp [Lib.keeps, lastO]
    | succ k =>
      rw [lastO_take d k (by omega)]
      by_cases h : d[k + 1]! = d[k]!
      · rw [if_neg (by simp [Lib.keeps, h]), if_pos (by rw [h])]
      · rw [if_pos (by simp [Lib.keeps, h]), if_neg (fun h' => h (by injection h' with h'; exact h'.symm))]
theorem compact_cpZ (zs : List Int) : Lib.compact zs = cpZ none zs := by
  unfold Lib.compact
  rw [compactUpTo_cpZ _ _ (by simp)]
  simp
theorem cpZ_length : ∀ (l : List Int) (p : Option Int), (cpZ p l).length ≤ l.length
  | [], _ => by simp [cpZ]
  | x :: r, p => by
    unfold cpZ
    split
    · have := cpZ_length r p; simp; omega
    · have := cpZ_length r (some x); simp; omega

/-! ### the contracts -/
def sortG (_ : TypeId) (sz : Nat) (xs : List (List PV)) : Option (List (List PV)) :=
  if sz == 1 && Nat.ble xs.length lim then (match toInts xs with | some zs => some (rowI (sortZ zs)) | none => none) else none
def compactG (_ : TypeId) (sz : Nat) (xs : List (List PV)) : Option (List (List PV)) :=
  if sz == 1 && Nat.ble xs.length lim then (match toInts xs with | some zs => some (rowI (cpZ none zs)) | none => none) else none
theorem sortG_row (e : TypeId) (zs : List Int) (h : zs.length ≤ lim) : sortG e 1 (rowI zs) = some (rowI (sortZ zs)) := by
  have h1 : (rowI zs).length ≤ lim := by simpa [rowI] using h
  simp [sortG, h1, toInts_rowI]
theorem compactG_row (e : TypeId) (zs : List Int) (h : zs.length ≤ lim) : compactG e 1 (rowI zs) = some (rowI (cpZ none zs)) := by
  have h1 : (rowI zs).length ≤ lim := by simpa [rowI] using h
  simp [compactG, h1, toInts_rowI]

theorem onCells_same {w : World} {g : Nat} {cur : Array Value} {t : TypeId} {fz : Nat × Nat} (h : w.heap[g]? = some (.cells cur t fz)) (f : Array Value → Array Value) : (Go.Sort.mapBlock w g f).heap[g]? = some (.cells (f cur) t fz) := by
  simp [Go.Sort.mapBlock, Array.getElem?_modify, h, Go.Sort.onCells]
theorem onCells_other {w : World} {g k : Nat} (h : k ≠ g) (f : Array Value → Array Value) : (Go.Sort.mapBlock w g f).heap[k]? = w.heap[k]? := by
  simp [Go.Sort.mapBlock, Array.getElem?_modify, h.symm]
theorem putCells_at (d : Array Int) (cur : Array Value) (i : Nat) (hi : i < d.size) (hc : i < cur.size) : (Go.Sort.putCells (Value.int .i64) 0 d cur)[i]? = some (.int .i64 d[i]!) := by
  simp [Go.Sort.putCells, hi, hc]
/-- A row of ints in a block of its own. -/
theorem rowAt_ints {w : World} {ok : Nat → Prop} {v : Value} {e : TypeId} {zs : List Int} (h : RowAt w ok v e 1 (rowI zs)) :
    (v = .slice none 0 0 ∧ zs = []) ∨ ∃ g c cur fz, v = .slice (some ⟨g, 0, none⟩) zs.length c ∧ w.heap[g]? = some (.cells cur e fz) ∧ zs.length ≤ c ∧ c ≤ cur.size ∧ noFz fz cur.size ∧ Go.Sort.Holds (Value.int .i64) w g 0 zs.toArray := by
  rcases h with ⟨hv, hx⟩ | ⟨g, c, cur, fz, hv, h1, h2, h3, h4, h5, h6, h7⟩
  · exact .inl ⟨hv, by cases zs with | nil => rfl | cons => simp [rowI] at hx⟩
  · have hl : (rowI zs).length = zs.length := by simp [rowI]
    rw [hl] at hv h2
    rw [Nat.mul_one] at h3
    refine .inr ⟨g, c, cur, fz, hv, h1, h2, h3, h4, fun j hj => ?_⟩
    have hj' : j < zs.length := by simpa using hj
    obtain ⟨u, hu, hr⟩ := h7 j [.int .i64 zs[j]] 0 (.int .i64 zs[j]) (by simp [rowI, hj']) rfl
    rw [Nat.mul_one, Nat.add_zero] at hu
    rw [Nat.zero_add]
    refine ⟨?_, frozen_of h1 h4 (by omega)⟩
    rw [cell_of_heap h1, hu]
    cases hr
    simp [getElem!_pos, hj']
theorem rowAt_put {w' : World} {g c : Nat} {cur : Array Value} {e : TypeId} {fz : Nat × Nat} {d : Array Int} (zs : List Int) (hh : w'.heap[g]? = some (.cells (Go.Sort.putCells (Value.int .i64) 0 d cur) e fz)) (hz : zs.length ≤ d.size) (hd : d.size ≤ c) (hc : c ≤ cur.size) (hf : noFz fz cur.size) (he : ∀ i, i < zs.length → d[i]! = zs[i]!) :
    RowAt w' (fun _ => False) (.slice (some ⟨g, 0, none⟩) zs.length c) e 1 (rowI zs) := by
  have hs : (Go.Sort.putCells (Value.int .i64) 0 d cur).size = cur.size := by simp [Go.Sort.putCells]
  have hl : (rowI zs).length = zs.length := by simp [rowI]
  refine .inr ⟨g, c, _, fz, by rw [hl], hh, by rw [hl]; omega, by rw [hs]; omega, by rw [hs]; exact hf, fun x hx => ?_, fun x hx p hp => ?_, fun i x j p hx hp => ?_⟩
  · obtain ⟨z, _, rfl⟩ := List.mem_map.1 hx; rfl
  · obtain ⟨z, _, rfl⟩ := List.mem_map.1 hx
    simp at hp; subst hp; rfl
  · have hi : i < zs.length := by rw [← hl]; exact (List.getElem?_eq_some_iff.1 hx).1
    have hx' : x = [.int .i64 zs[i]!] := by
      simp [rowI, hi] at hx
      rw [← hx]
      simp [getElem!_pos, hi]
    subst hx'
    cases j with
    | succ j => simp at hp
    | zero =>
      have hp : some _ = some p := hp
      injection hp with hp
      subst hp
      refine ⟨_, ?_, .int .i64 _⟩
      rw [Nat.mul_one, Nat.add_zero, putCells_at d cur i (by omega) (by omega), he i hi]
variable {P : Program}
section
variable {ρ : Shelf.Ren}
theorem compactE (L : SlLaysE.n43 P ρ) (v23 : ∀ w, (zeroValue (ρ.t 23)).run P w = .ok (.int .i64 0) w) (blk off cap : Nat) (zs : List Int) (w : World) (hH : Go.Sort.Holds (Value.int .i64) w blk off zs.toArray) (hsz : zs.length ≤ 9223372036854775807) (hcap : zs.length ≤ cap) :
    Calls P (ρ.f 43) #[.slice (some ⟨blk, off, none⟩) zs.length cap] w fun e w' => e = .returned (.slice (some ⟨blk, off, none⟩) (Lib.compact zs).length cap) ∧ ∃ q, w' = Go.Sort.putRow (Value.int .i64) (Sort.ahead w q) blk off (Lib.compact zs ++ List.replicate (zs.length - (Lib.compact zs).length) 0).toArray := by
  have h := AnyE.slices_Compact L (Value.int .i64) (by intro _; rfl) (.intD P _ _) (.intD P _ _) 0 v23 blk off cap zs.toArray w hH (by simpa using hsz) (by simpa using hcap)
  simpa [Lib.compact] using h
set_option maxHeartbeats 1000000 in
theorem compactE_empty (L : SlLaysE.n43 P ρ) (a : Option Addr) (cap : Nat) (w : World) :
    Calls P (ρ.f 43) #[.slice a 0 cap] w fun e w' => e = .returned (.slice a 0 cap) ∧ w' = w := by
  have mixed := L.mixed; have t0 := L.t0; have a0 := L.a0; have z0 := L.z0; have v0 := L.v0; have t3 := L.t3; have a3 := L.a3; have z3 := L.z3; have v3 := L.v3; have t4 := L.t4; have a4 := L.a4; have z4 := L.z4; have v4 := L.v4; have t22 := L.t22; have a22 := L.a22; have z22 := L.z22; have v22 := L.v22; have a23 := L.a23; have z23 := L.z23
  obtain ⟨_, _, FG⟩ := L.f43
  go_enter FG, SlBodyN.n43_ntmps ρ
  go_wp2
  go_ret
  exact ⟨rfl, rfl⟩
end
theorem sort_rw {ρ : Shelf.Ren} (L : SlLaysM.n5 P ρ) {f : FuncId} (hf : ρ.f 5 = f) : RwOk P f false sortG := by
  subst hf
  refine ⟨fun w => (AnyM.slices_Sort_int_none L none 0 w).mono fun e w' h => ?_, fun e sz xs ys hg w ok v hr => ?_⟩
  · obtain ⟨he, hw⟩ := h
    subst hw
    exact ⟨he, rfl, rfl, rfl, rfl⟩
  · unfold sortG at hg
    split at hg
    · rename_i hc
      simp only [Bool.and_eq_true, beq_iff_eq, Nat.ble_eq] at hc
      obtain ⟨rfl, hlim⟩ := hc
      split at hg
      · rename_i zs hzs
        injection hg with hg
        subst hg
        have := toInts_eq hzs
        subst this
        have hl : zs.length ≤ lim := by simpa [rowI] using hlim
        unfold lim at hl
        have hsl : (sortZ zs).length = zs.length := (sortZ_perm zs).length_eq
        rcases rowAt_ints hr with ⟨rfl, rfl⟩ | ⟨g, c, cur, fz, rfl, h1, h2, h3, h4, hH⟩
        · refine (AnyM.slices_Sort_int_none L none 0 w).mono fun e w' h => ?_
          obtain ⟨he, hw⟩ := h
          subst hw
          exact ⟨rfl, rfl, rfl, Nat.le_refl _, fun _ _ _ => rfl, _, he, rfl, fun _ => rfl, rfl, .inl ⟨rfl, rfl⟩⟩
        · have hg := (Array.getElem?_eq_some_iff.1 h1).1
          refine (AnyM.slices_Sort_int L g 0 c zs w hH hg (by omega)).mono fun e1 w' ⟨he, n, os, hw⟩ => ?_
          rw [sortZ_eq] at hw
          subst hw
          have hsz : (Go.Sort.putRow (Value.int .i64) (Go.Sort.ahead w n) g 0 (sortZ zs).toArray).heap.size = w.heap.size := by simp [Go.Sort.putRow, Go.Sort.mapBlock, Go.Sort.ahead]
          have hget : ∀ k, k < w.heap.size → (Go.Sort.grow (Go.Sort.putRow (Value.int .i64) (Go.Sort.ahead w n) g 0 (sortZ zs).toArray) os).heap[k]? = (Go.Sort.putRow (Value.int .i64) (Go.Sort.ahead w n) g 0 (sortZ zs).toArray).heap[k]? := fun k hk => by
            show (_ ++ os)[k]? = _
            rw [Array.getElem?_append_left (by rw [hsz]; exact hk)]
          refine ⟨rfl, rfl, rfl, ?_, fun k hk hne => ?_, _, he, rfl, fun _ => rfl, rfl, ?_⟩
          · show w.heap.size ≤ (_ ++ os).size
            rw [Array.size_append, hsz]; omega
          · rw [hget k hk]
            exact onCells_other (w := Go.Sort.ahead w n) (by simp [Value.ownBlock] at hne; exact fun h => hne h.symm) _
          · have := rowAt_put (c := c) (sortZ zs) ((hget g hg).trans (onCells_same (w := Go.Sort.ahead w n) h1 _)) (by simp) (by simp [hsl]; exact h2) h3 h4 (fun i hi => by simp [getElem!_pos, hi])
            rw [hsl] at this
            exact this
      · cases hg
    · cases hg
theorem compact_rw {ρ : Shelf.Ren} (L : SlLaysE.n43 P ρ) (v23 : ∀ w, (zeroValue (ρ.t 23)).run P w = .ok (.int .i64 0) w) {f : FuncId} (hf : ρ.f 43 = f) : RwOk P f true compactG := by
  subst hf
  refine ⟨fun w => (compactE_empty L none 0 w).mono fun e w' h => ?_, fun e sz xs ys hg w ok v hr => ?_⟩
  · obtain ⟨he, hw⟩ := h
    subst hw
    exact ⟨he, rfl, rfl, rfl, rfl⟩
  · unfold compactG at hg
    split at hg
    · rename_i hc
      simp only [Bool.and_eq_true, beq_iff_eq, Nat.ble_eq] at hc
      obtain ⟨rfl, hlim⟩ := hc
      split at hg
      · rename_i zs hzs
        injection hg with hg
        subst hg
        have := toInts_eq hzs
        subst this
        have hl : zs.length ≤ lim := by simpa [rowI] using hlim
        unfold lim at hl
        have hcl := cpZ_length zs none
        rcases rowAt_ints hr with ⟨rfl, rfl⟩ | ⟨g, c, cur, fz, rfl, h1, h2, h3, h4, hH⟩
        · refine (compactE_empty L none 0 w).mono fun e w' h => ?_
          obtain ⟨he, hw⟩ := h
          subst hw
          exact ⟨rfl, rfl, rfl, Nat.le_refl _, fun _ _ _ => rfl, _, he, rfl, fun _ => rfl, rfl, .inl ⟨rfl, rfl⟩⟩
        · have hg := (Array.getElem?_eq_some_iff.1 h1).1
          refine (compactE L v23 g 0 c zs w hH (by omega) h2).mono fun e1 w' ⟨he, q, hw⟩ => ?_
          rw [compact_cpZ] at he hw
          subst hw
          refine ⟨rfl, rfl, rfl, ?_, fun k hk hne => ?_, _, he, rfl, fun h => (by cases h), rfl, ?_⟩
          · simp [Go.Sort.putRow, Go.Sort.mapBlock, Go.Sort.ahead]
          · exact onCells_other (w := Go.Sort.ahead w q) (by simp [Value.ownBlock] at hne; exact fun h => hne h.symm) _
          · refine rowAt_put (c := c) (cpZ none zs) (onCells_same (w := Go.Sort.ahead w q) h1 _) (by simp) (by simp; omega) h3 h4 (fun i hi => ?_)
            have hi2 : i < (cpZ none zs ++ List.replicate (zs.length - (cpZ none zs).length) 0).length := by simp; omega
            rw [getElem!_pos _ i (by simpa using hi2), getElem!_pos _ i hi]
            simp [List.getElem_append_left, hi]
      · cases hg
    · cases hg
#print axioms sort_rw
#print axioms compact_rw
end Go.Den
