/- Den: columns of numbers in plain words: how they are told, and how they are read. No program in sight. -/
import Derived.Test.YtojaklgmojmjeaaDenK4
import Derived.Test.YtojaklgmojmjeaaDenS
set_option linter.unusedVariables false
set_option linter.unusedSimpArgs false
namespace Go.Den
open Go Go.RowKit

def zigs (l : List Int) : List Int := l.flatMap fun x => num (zig x)
theorem zigs_nil : zigs [] = [] := rfl
theorem zigs_cons (x : Int) (l : List Int) : zigs (x :: l) = num (zig x) ++ zigs l := rfl
theorem zigs_snoc (l : List Int) (x : Int) : zigs (l ++ [x]) = zigs l ++ num (zig x) := by simp [zigs, List.flatMap_append]
theorem Ri64.cons {x : Int} {l : List Int} (h : Ri64 (x :: l)) : (-9223372036854775808 ≤ x ∧ x < 9223372036854775808) ∧ Ri64 l := ⟨h x (by simp), fun z hz => h z (by simp [hz])⟩
theorem Ri64.sub {a b : List Int} (h : Ri64 a) (hs : ∀ x ∈ b, x ∈ a) : Ri64 b := fun z hz => h z (hs z hz)
theorem zig_r {x : Int} (h : -9223372036854775808 ≤ x ∧ x < 9223372036854775808) : 0 ≤ zig x ∧ zig x < 18446744073709551616 := ⟨zig_lo x, zig_hi h.1 h.2⟩
theorem zigs_len {l : List Int} (h : Ri64 l) : (zigs l).length ≤ 10 * l.length := by
  induction l with
  | nil => simp [zigs]
  | cons x r ih =>
    obtain ⟨h1, h2⟩ := h.cons
    have h3 := zig_r h1
    have h4 := num_len10 h3.1 h3.2
    have := ih h2
    rw [zigs_cons, List.length_append, List.length_cons]
    omega
theorem zigs_ge (l : List Int) : l.length ≤ (zigs l).length := by
  induction l with
  | nil => simp [zigs]
  | cons x r ih =>
    have h4 := num_pos (zig x)
    rw [zigs_cons, List.length_append, List.length_cons]
    omega
theorem zigs_R8 {l : List Int} (h : Ri64 l) : R8 (zigs l) := by
  induction l with
  | nil => intro z hz; simp [zigs] at hz
  | cons x r ih =>
    obtain ⟨h1, h2⟩ := h.cons
    have h3 := zig_r h1
    rw [zigs_cons]
    exact (num_r8 h3.1 h3.2).append (ih h2)

/-! ### runs -/
def runLen (x : Int) (l : List Int) : Nat := (l.takeWhile fun y => y == x).length
theorem runLen_le (x : Int) (l : List Int) : runLen x l ≤ l.length := by
  unfold runLen; exact (List.takeWhile_sublist _).length_le
theorem runLen_get {x : Int} {l : List Int} {j : Nat} (h : j < runLen x l) : l[j]? = some x := by
  induction l generalizing j with
  | nil => simp [runLen] at h
  | cons y r ih =>
    unfold runLen at h
    rw [List.takeWhile_cons] at h
    split at h
    · rename_i hy
      have hy : y = x := by simpa using hy
      cases j with
      | zero => simp [hy]
      | succ j => simp only [List.length_cons] at h; simpa using ih (j := j) (by unfold runLen; omega)
    · simp at h
theorem runLen_end {x y : Int} {l : List Int} (h : l[runLen x l]? = some y) : y ≠ x := by
  induction l with
  | nil => simp [runLen] at h
  | cons z r ih =>
    unfold runLen at h ih
    rw [List.takeWhile_cons] at h
    split at h
    · exact ih (by simpa using h)
    · rename_i hz
      simp at h hz
      rw [← h]; exact hz
theorem runLen_take (x : Int) (l : List Int) : l.take (runLen x l) = List.replicate (runLen x l) x := by
  refine List.ext_getElem? fun j => ?_
  by_cases h : j < runLen x l
  · rw [List.getElem?_take_of_lt h, runLen_get h, List.getElem?_replicate, if_pos h]
  · rw [List.getElem?_take_eq_none (by omega), List.getElem?_replicate, if_neg h]
def runsL : List Int → List Int
  | [] => []
  | x :: r => num ((1 + runLen x r : Nat) : Int) ++ num (zig x) ++ runsL (r.drop (runLen x r))
termination_by l => l.length
decreasing_by simp; omega
theorem runsL_nil : runsL [] = [] := by rw [runsL]
theorem runsL_cons (x : Int) (r : List Int) : runsL (x :: r) = num ((1 + runLen x r : Nat) : Int) ++ num (zig x) ++ runsL (r.drop (runLen x r)) := by rw [runsL]
theorem runs_facts : ∀ (n : Nat) {l : List Int}, l.length ≤ n → l.length ≤ 1000000 → Ri64 l → R8 (runsL l) ∧ (runsL l).length ≤ 20 * l.length
  | _, [], _, _, _ => ⟨by rw [runsL_nil]; intro z hz; simp at hz, by rw [runsL_nil]; simp⟩
  | 0, x :: r, h, _, _ => by simp at h
  | n + 1, x :: r, h, hl, hr => by
    obtain ⟨h1, h2⟩ := hr.cons
    have h3 := zig_r h1
    have hle := runLen_le x r
    simp only [List.length_cons] at h hl ⊢
    obtain ⟨i1, i2⟩ := runs_facts n (l := r.drop (runLen x r)) (by simp; omega) (by simp; omega) (h2.sub fun z hz => List.mem_of_mem_drop hz)
    rw [runsL_cons]
    have c1 : ((1 + runLen x r : Nat) : Int) < 18446744073709551616 := by omega
    refine ⟨((num_r8 (by omega) c1).append (num_r8 h3.1 h3.2)).append i1, ?_⟩
    have a := num_len10 (u := ((1 + runLen x r : Nat) : Int)) (by omega) c1
    have b := num_len10 h3.1 h3.2
    simp only [List.length_append, List.length_drop] at i2 ⊢
    omega

/-! ### frames -/
def minL : List Int → Int
  | [] => 0
  | x :: r => r.foldl (fun a b => if b < a then b else a) x
def maxL : List Int → Int
  | [] => 0
  | x :: r => r.foldl (fun a b => if a < b then b else a) x
theorem foldMin : ∀ (r : List Int) (x : Int), (r.foldl (fun a b => if b < a then b else a) x ≤ x ∧ ∀ y ∈ r, r.foldl (fun a b => if b < a then b else a) x ≤ y) ∧ (r.foldl (fun a b => if b < a then b else a) x) ∈ x :: r
  | [], x => by simp
  | y :: r, x => by
    obtain ⟨m, hm, e⟩ : ∃ m : Int, (m ≤ x ∧ m ≤ y ∧ (m = x ∨ m = y)) ∧ (if y < x then y else x) = m := ⟨_, by split <;> omega, rfl⟩
    obtain ⟨⟨h1, h2⟩, h3⟩ := foldMin r m
    simp only [List.foldl_cons, e]
    refine ⟨⟨by omega, fun z hz => ?_⟩, ?_⟩
    · rcases List.mem_cons.1 hz with rfl | hz
      · omega
      · exact h2 z hz
    · rcases List.mem_cons.1 h3 with h | h
      · rw [h]; rcases hm.2.2 with h | h <;> simp [h]
      · simp [h]
theorem foldMax : ∀ (r : List Int) (x : Int), (x ≤ r.foldl (fun a b => if a < b then b else a) x ∧ ∀ y ∈ r, y ≤ r.foldl (fun a b => if a < b then b else a) x) ∧ (r.foldl (fun a b => if a < b then b else a) x) ∈ x :: r
  | [], x => by simp
  | y :: r, x => by
    obtain ⟨m, hm, e⟩ : ∃ m : Int, (m ≥ x ∧ m ≥ y ∧ (m = x ∨ m = y)) ∧ (if x < y then y else x) = m := ⟨_, by split <;> omega, rfl⟩
    obtain ⟨⟨h1, h2⟩, h3⟩ := foldMax r m
    simp only [List.foldl_cons, e]
    refine ⟨⟨by omega, fun z hz => ?_⟩, ?_⟩
    · rcases List.mem_cons.1 hz with rfl | hz
      · omega
      · exact h2 z hz
    · rcases List.mem_cons.1 h3 with h | h
      · rw [h]; rcases hm.2.2 with h | h <;> simp [h]
      · simp [h]
theorem minL_le {l : List Int} {y : Int} (h : y ∈ l) : minL l ≤ y := by
  cases l with
  | nil => simp at h
  | cons x r => obtain ⟨⟨h1, h2⟩, _⟩ := foldMin r x; rcases List.mem_cons.1 h with rfl | h; exact h1; exact h2 y h
theorem maxL_ge {l : List Int} {y : Int} (h : y ∈ l) : y ≤ maxL l := by
  cases l with
  | nil => simp at h
  | cons x r => obtain ⟨⟨h1, h2⟩, _⟩ := foldMax r x; rcases List.mem_cons.1 h with rfl | h; exact h1; exact h2 y h
theorem minL_mem {l : List Int} (h : l ≠ []) : minL l ∈ l := by
  cases l with
  | nil => exact absurd rfl h
  | cons x r => exact (foldMin r x).2
theorem maxL_mem {l : List Int} (h : l ≠ []) : maxL l ∈ l := by
  cases l with
  | nil => exact absurd rfl h
  | cons x r => exact (foldMax r x).2
def wideL (l : List Int) : Nat := width (maxL l - minL l).toNat
def frameL (l : List Int) : List Int := if l = [] then [] else num (zig (minL l)) ++ (wideL l : Int) :: packL (wideL l) (l.map fun x => x - minL l)
theorem far_R64 {l : List Int} (h : Ri64 l) : R64 (l.map fun x => x - minL l) := by
  intro z hz
  obtain ⟨x, hx, rfl⟩ := List.mem_map.1 hz
  have h1 := minL_le hx
  have h2 := h x hx
  have h3 := h _ (minL_mem (List.ne_nil_of_mem hx))
  omega
theorem wideL_le {l : List Int} (h : Ri64 l) : wideL l ≤ 64 := by
  by_cases hl : l = []
  · subst hl; decide
  · refine width_le ?_
    have h2 := h _ (maxL_mem hl)
    have h3 := h _ (minL_mem hl)
    omega

/-! ### lists of the unlike -/
def uniq (l : List Int) : List Int := cpZ none (sortZ l)
def lb (u : List Int) (x : Int) : Nat := (u.takeWhile fun y => decide (y < x)).length
def dictL (l : List Int) : List Int := num ((uniq l).length : Int) ++ zigs (uniq l) ++ packL (width ((uniq l).length - 1)) (l.map fun x => (lb (uniq l) x : Int))
theorem cpZ_mem : ∀ (l : List Int) (p : Option Int) (x : Int), x ∈ cpZ p l → x ∈ l
  | [], _, _, h => by simp [cpZ] at h
  | y :: r, p, x, h => by
    unfold cpZ at h
    split at h
    · exact List.mem_cons_of_mem _ (cpZ_mem r p x h)
    · rcases List.mem_cons.1 h with rfl | h
      · simp
      · exact List.mem_cons_of_mem _ (cpZ_mem r _ x h)
theorem cpZ_has : ∀ (l : List Int) (p : Option Int) (x : Int), x ∈ l → p = some x ∨ x ∈ cpZ p l
  | [], _, _, h => by simp at h
  | y :: r, p, x, h => by
    unfold cpZ
    rcases List.mem_cons.1 h with rfl | h
    · split
      · rename_i hp; exact .inl hp
      · exact .inr (by simp)
    · split
      · exact cpZ_has r p x h
      · rcases cpZ_has r (some y) x h with hs | hs
        · injection hs with hs; exact .inr (by simp [hs])
        · exact .inr (by simp [hs])
theorem cpZ_sorted : ∀ (l : List Int) (p : Option Int), l.Pairwise (· ≤ ·) → (∀ q, p = some q → ∀ y ∈ l, q ≤ y) → (cpZ p l).Pairwise (· < ·) ∧ ∀ q, p = some q → ∀ y ∈ cpZ p l, q < y
  | [], _, _, _ => by simp [cpZ]
  | y :: r, p, h, hp => by
    rw [List.pairwise_cons] at h
    unfold cpZ
    split
    · rename_i he
      exact cpZ_sorted r p h.2 (fun q hq z hz => hp q hq z (by simp [hz]))
    · rename_i he
      obtain ⟨h1, h2⟩ := cpZ_sorted r (some y) h.2 (fun q hq z hz => by injection hq with hq; subst hq; exact h.1 z hz)
      refine ⟨List.pairwise_cons.2 ⟨fun z hz => h2 y rfl z hz, h1⟩, fun q hq z hz => ?_⟩
      have hqy : q < y := by
        have := hp q hq y (by simp)
        rcases Int.lt_or_eq_of_le this with h | h
        · exact h
        · subst h; exact absurd hq he
      rcases List.mem_cons.1 hz with rfl | hz
      · exact hqy
      · have := h2 y rfl z hz; omega
theorem uniq_sorted (l : List Int) : (uniq l).Pairwise (· < ·) := (cpZ_sorted (sortZ l) none (sortZ_sorted l) (fun q hq => by cases hq)).1
theorem uniq_mem {l : List Int} {x : Int} : x ∈ uniq l ↔ x ∈ l := by
  constructor
  · intro h; exact (sortZ_perm l).mem_iff.1 (cpZ_mem _ _ _ h)
  · intro h
    rcases cpZ_has (sortZ l) none x ((sortZ_perm l).mem_iff.2 h) with h | h
    · cases h
    · exact h
theorem uniq_len (l : List Int) : (uniq l).length ≤ l.length := by
  have := cpZ_length (sortZ l) none
  rw [(sortZ_perm l).length_eq] at this
  exact this
theorem lb_le (u : List Int) (x : Int) : lb u x ≤ u.length := by unfold lb; exact (List.takeWhile_sublist _).length_le
theorem lb_cons (y : Int) (u : List Int) (x : Int) : lb (y :: u) x = if y < x then lb u x + 1 else 0 := by
  unfold lb
  rw [List.takeWhile_cons]
  by_cases h : y < x <;> simp [h]
theorem lb_lt : ∀ {u : List Int} {x : Int}, u.Pairwise (· < ·) → ∀ {h : Nat} {y : Int}, u[h]? = some y → (y < x ↔ h < lb u x)
  | [], _, _, h, y, hy => by simp at hy
  | z :: r, x, hs, h, y, hy => by
    rw [List.pairwise_cons] at hs
    rw [lb_cons]
    cases h with
    | zero =>
      simp at hy
      subst hy
      by_cases hz : z < x <;> simp [hz]
    | succ h =>
      have hy : r[h]? = some y := by simpa using hy
      have hzy := hs.1 y (List.mem_of_getElem? hy)
      by_cases hz : z < x
      · rw [if_pos hz, lb_lt hs.2 hy]; omega
      · rw [if_neg hz]; constructor <;> intro h' <;> omega
theorem lb_mem {u : List Int} {x : Int} (hs : u.Pairwise (· < ·)) (hx : x ∈ u) : u[lb u x]? = some x := by
  obtain ⟨j, hj⟩ := List.getElem?_of_mem hx
  have h1 : ¬ j < lb u x := fun h => absurd ((lb_lt hs hj).2 h) (by omega)
  have h2 : ¬ lb u x < j := fun h => by
    have hlt : lb u x < u.length := Nat.lt_trans h (List.getElem?_eq_some_iff.1 hj).1
    have hg : u[lb u x]? = some u[lb u x] := List.getElem?_eq_getElem hlt
    have h3 : u[lb u x] < x := by
      have := List.pairwise_iff_getElem.1 hs (lb u x) j hlt (List.getElem?_eq_some_iff.1 hj).1 h
      rwa [(List.getElem?_eq_some_iff.1 hj).2] at this
    have := (lb_lt hs hg).1 h3
    omega
  have : lb u x = j := by omega
  rw [this]; exact hj

/-! ### told -/
def bodyL (k : Int) (l : List Int) : Option (List Int) :=
  if k = 1 then some (zigs l) else if k = 2 then some (runsL l) else if k = 3 then some (frameL l) else if k = 4 then some (dictL l) else none
def tellL (k : Int) (l : List Int) : Option (List Int) := if 65535 < l.length then none else match bodyL k l with | some b => some (k :: b) | none => none
def pick (a b : List Int) : List Int := if b.length < a.length then b else a
def encL (l : List Int) : List Int := if 65535 < l.length then [] else pick (pick (pick (1 :: zigs l) (2 :: runsL l)) (3 :: frameL l)) (4 :: dictL l)

/-! ### read -/
def rnum : Option (List Int) → Int × Option (List Int)
  | none => (0, none)
  | some zs => match pnum 0 0 zs with | none => (0, none) | some (v, r) => (v, some r)
def unpS : Nat → Option (List Int) → List Int × Option (List Int)
  | 0, s => ([], s)
  | j + 1, s => ((unpS j s).1 ++ [zag (rnum (unpS j s).2).1], (rnum (unpS j s).2).2)
def unrS (count : Nat) : Nat → List Int → Option (List Int) → Option (List Int) × Option (List Int)
  | 0, out, s => (some out, s)
  | f + 1, out, s =>
    if out.length < count then
      (if (rnum (rnum s).2).2 = none ∨ (rnum s).1 = 0 ∨ ((count - out.length : Nat) : Int) < (rnum s).1 then (none, (rnum (rnum s).2).2)
       else unrS count f (out ++ List.replicate (rnum s).1.toNat (zag (rnum (rnum s).2).1)) (rnum (rnum s).2).2)
    else (some out, s)
def w64 (x : Int) : Int := (x + 9223372036854775808) % 18446744073709551616 - 9223372036854775808
theorem w64_id {x : Int} (h : -9223372036854775808 ≤ x ∧ x < 9223372036854775808) : w64 x = x := by unfold w64; omega
def restL : Option (List Int) → List Int
  | none => []
  | some r => r
def unfL (count : Nat) (s : Option (List Int)) : List Int :=
  if count = 0 then [] else match restL (rnum s).2 with
    | [] => []
    | w :: r => if 64 < w then [] else ((unpack w r count).getD []).map fun u => w64 (zag (rnum s).1 + u)
def pickL (u : List Int) : List Int → Option (List Int)
  | [] => some []
  | i :: r => if (u.length : Int) ≤ i then none else (pickL u r).map (u.getD i.toNat 0 :: ·)
def undL (count : Nat) (s : Option (List Int)) : List Int :=
  if (rnum s).2 = none ∨ (count : Int) < (rnum s).1 then [] else
    (pickL (unpS (rnum s).1.toNat (rnum s).2).1 ((unpack (width ((unpS (rnum s).1.toNat (rnum s).2).1.length - 1)) (restL (unpS (rnum s).1.toNat (rnum s).2).2) count).getD [])).getD []
def rawL (k : Int) (zs : List Int) (count : Nat) : List Int :=
  if k = 1 then (unpS (min count (zs.length + 1)) (some zs)).1 else if k = 2 then (unrS count (count + 1) [] (some zs)).1.getD [] else if k = 3 then unfL count (some zs) else if k = 4 then undL count (some zs) else []
def decL (b : List Int) (count : Int) : Option (List Int) :=
  match b with
  | [] => none
  | k :: zs => if 0 ≤ count ∧ count ≤ 65535 then (if tellL k (rawL k zs count.toNat) = some (k :: zs) ∧ (rawL k zs count.toNat).length = count.toNat then some (rawL k zs count.toNat) else none) else none

/-! ### what was told is read -/
theorem rnum_num {u : Int} (r : List Int) (h0 : 0 ≤ u) (h1 : u < 18446744073709551616) : rnum (some (num u ++ r)) = (u, some r) := by
  simp [rnum, pnum_of_num r h0 h1]
theorem unpS_zigs {l r : List Int} (h : Ri64 l) : ∀ j, j ≤ l.length → unpS j (some (zigs l ++ r)) = (l.take j, some (zigs (l.drop j) ++ r)) := by
  intro j
  induction j with
  | zero => intro _; simp [unpS]
  | succ j ih =>
    intro hj
    have hz := h _ (List.getElem_mem (l := l) (n := j) (by omega))
    have h3 := zig_r hz
    have hd : l.drop j = l[j] :: l.drop (j + 1) := by rw [List.drop_eq_getElem_cons (by omega)]
    have hr : rnum (some (zigs (l.drop j) ++ r)) = (zig l[j], some (zigs (l.drop (j + 1)) ++ r)) := by
      rw [hd, zigs_cons, List.append_assoc]
      exact rnum_num _ h3.1 h3.2
    rw [unpS, ih (by omega)]
    simp only [hr, zag_zig]
    rw [List.take_succ_eq_append_getElem (by omega)]
theorem unpS_all {l r : List Int} (h : Ri64 l) : unpS l.length (some (zigs l ++ r)) = (l, some r) := by
  rw [unpS_zigs h _ (Nat.le_refl _)]; simp [zigs]
theorem unrS_runs : ∀ (n : Nat) {l r out : List Int} {f : Nat}, l.length ≤ n → l.length ≤ 1000000 → Ri64 l → l.length < f → unrS (out.length + l.length) f out (some (runsL l ++ r)) = (some (out ++ l), some r)
  | _, [], r, out, f + 1, _, _, _, _ => by simp [unrS, runsL_nil]
  | 0, x :: l, _, _, _, h, _, _, _ => by simp at h
  | _, _, _, _, 0, _, _, _, h => by simp at h
  | n + 1, x :: l, r, out, f + 1, h, hl, hr, hf => by
    obtain ⟨h1, h2⟩ := hr.cons
    have h3 := zig_r h1
    have hle := runLen_le x l
    simp only [List.length_cons] at h hl hf
    have c1 : ((1 + runLen x l : Nat) : Int) < 18446744073709551616 := by omega
    have e1 : rnum (some (runsL (x :: l) ++ r)) = (((1 + runLen x l : Nat) : Int), some (num (zig x) ++ (runsL (l.drop (runLen x l)) ++ r))) := by
      rw [runsL_cons, List.append_assoc, List.append_assoc]
      exact rnum_num _ (by omega) c1
    have e2 : rnum (some (num (zig x) ++ (runsL (l.drop (runLen x l)) ++ r))) = (zig x, some (runsL (l.drop (runLen x l)) ++ r)) := rnum_num _ h3.1 h3.2
    rw [unrS]
    simp only [e1, e2, zag_zig, List.length_cons]
    rw [if_pos (by omega), if_neg (by simp; omega)]
    have ht : ((1 + runLen x l : Nat) : Int).toNat = 1 + runLen x l := by omega
    rw [ht]
    have key := unrS_runs n (l := l.drop (runLen x l)) (r := r) (out := out ++ List.replicate (1 + runLen x l) x) (f := f) (by simp; omega) (by simp; omega) (h2.sub fun z hz => List.mem_of_mem_drop hz) (by simp; omega)
    have hc : (out ++ List.replicate (1 + runLen x l) x).length + (l.drop (runLen x l)).length = out.length + (l.length + 1) := by simp; omega
    rw [hc] at key
    rw [key]
    have hx : List.replicate (1 + runLen x l) x ++ l.drop (runLen x l) = x :: l := by
      rw [Nat.add_comm, List.replicate_succ, ← runLen_take, List.cons_append, List.take_append_drop]
    rw [List.append_assoc, hx]
theorem unfL_frame {l : List Int} (h : Ri64 l) (hl : l.length ≤ 65535) : unfL l.length (some (frameL l)) = l := by
  by_cases hn : l = []
  · subst hn; rfl
  · have hm := h _ (minL_mem hn)
    have h3 := zig_r hm
    have hw := wideL_le h
    have hne : ¬ l.length = 0 := fun h0 => hn (List.length_eq_zero_iff.1 h0)
    unfold unfL
    rw [if_neg hne]
    have e1 : rnum (some (frameL l)) = (zig (minL l), some ((wideL l : Int) :: packL (wideL l) (l.map fun x => x - minL l))) := by
      unfold frameL; rw [if_neg hn]; exact rnum_num _ h3.1 h3.2
    have hu := unpack_packL (m := wideL l) (far_R64 h) hw (by simpa using hl)
    simp only [List.length_map] at hu
    have hfit : (l.map fun x => x - minL l).map (fun x => x % ((2 ^ wideL l : Nat) : Int)) = l.map fun x => x - minL l := by
      rw [List.map_map]
      refine List.map_congr_left fun x hx => ?_
      have h1 := minL_le hx
      have h2 := maxL_ge hx
      have h4 := width_lt (maxL l - minL l).toNat
      simp only [Function.comp_apply]
      refine Int.emod_eq_of_lt (by omega) ?_
      have h5 : (maxL l - minL l).toNat < 2 ^ wideL l := h4
      omega
    simp only [e1, restL, zag_zig]
    rw [if_neg (by omega), hu, hfit]
    simp only [Option.getD_some, List.map_map]
    refine (List.map_congr_left fun x hx => ?_).trans (List.map_id l)
    simp only [Function.comp_apply, id]
    rw [show minL l + (x - minL l) = x by omega]
    exact w64_id (h x hx)
theorem pickL_map {u : List Int} (hu : u.Pairwise (· < ·)) : ∀ {l : List Int}, (∀ x ∈ l, x ∈ u) → pickL u (l.map fun x => (lb u x : Int)) = some l
  | [], _ => rfl
  | x :: r, h => by
    have hx := lb_mem hu (h x (by simp))
    have hlt : lb u x < u.length := (List.getElem?_eq_some_iff.1 hx).1
    rw [List.map_cons, pickL, if_neg (by omega), pickL_map hu (fun y hy => h y (by simp [hy]))]
    simp [List.getD, hx]
theorem undL_dict {l : List Int} (h : Ri64 l) (hl : l.length ≤ 65535) : undL l.length (some (dictL l)) = l := by
  have hul := uniq_len l
  have hur : Ri64 (uniq l) := h.sub fun x hx => uniq_mem.1 hx
  have c1 : ((uniq l).length : Int) < 18446744073709551616 := by omega
  have e1 : rnum (some (dictL l)) = (((uniq l).length : Int), some (zigs (uniq l) ++ packL (width ((uniq l).length - 1)) (l.map fun x => (lb (uniq l) x : Int)))) := by
    unfold dictL; rw [List.append_assoc]; exact rnum_num _ (by omega) c1
  have e2 : unpS (uniq l).length (some (zigs (uniq l) ++ packL (width ((uniq l).length - 1)) (l.map fun x => (lb (uniq l) x : Int)))) = (uniq l, some (packL (width ((uniq l).length - 1)) (l.map fun x => (lb (uniq l) x : Int)))) := unpS_all hur
  have hs := uniq_sorted l
  have hlb : ∀ x ∈ l, lb (uniq l) x < (uniq l).length := fun x hx => (List.getElem?_eq_some_iff.1 (lb_mem hs (uniq_mem.2 hx))).1
  have h64 : R64 (l.map fun x => (lb (uniq l) x : Int)) := fun z hz => by
    obtain ⟨x, hx, rfl⟩ := List.mem_map.1 hz
    have := hlb x hx
    omega
  have hw : width ((uniq l).length - 1) ≤ 64 := width_le (by omega)
  have hu := unpack_packL (m := width ((uniq l).length - 1)) h64 hw (by simpa using hl)
  simp only [List.length_map] at hu
  have hfit : (l.map fun x => (lb (uniq l) x : Int)).map (fun x => x % ((2 ^ width ((uniq l).length - 1) : Nat) : Int)) = l.map fun x => (lb (uniq l) x : Int) := by
    rw [List.map_map]
    refine List.map_congr_left fun x hx => ?_
    have h1 := hlb x hx
    have h4 := width_lt ((uniq l).length - 1)
    simp only [Function.comp_apply]
    refine Int.emod_eq_of_lt (by omega) ?_
    omega
  unfold undL
  simp only [e1, Int.toNat_natCast, e2, restL]
  rw [if_neg (by simp; omega), hu, hfit]
  simp [pickL_map hs (fun x hx => uniq_mem.2 hx)]
theorem rawL_body {k : Int} {l zs : List Int} (h : Ri64 l) (hl : l.length ≤ 65535) (hb : bodyL k l = some zs) : rawL k zs l.length = l := by
  unfold bodyL at hb
  unfold rawL
  split at hb
  · injection hb with hb; subst hb
    rename_i hk
    rw [if_pos hk]
    have := zigs_ge l
    rw [Nat.min_eq_left (by omega)]
    have := unpS_all (r := []) h
    rw [List.append_nil] at this
    rw [this]
  · rename_i h1
    rw [if_neg h1]
    split at hb
    · injection hb with hb; subst hb
      rename_i hk
      rw [if_pos hk]
      have := unrS_runs l.length (r := []) (out := []) (f := l.length + 1) (Nat.le_refl _) (by omega) h (by omega)
      simp only [List.length_nil, Nat.zero_add, List.append_nil, List.nil_append] at this
      rw [this]; rfl
    · rename_i h2
      rw [if_neg h2]
      split at hb
      · injection hb with hb; subst hb
        rename_i hk
        rw [if_pos hk]; exact unfL_frame h hl
      · rename_i h3
        rw [if_neg h3]
        split at hb
        · injection hb with hb; subst hb
          rename_i hk
          rw [if_pos hk]; exact undL_dict h hl
        · cases hb
theorem decL_tell {k : Int} {l b : List Int} (h : Ri64 l) (hb : tellL k l = some b) : decL b l.length = some l := by
  have hb0 := hb
  unfold tellL at hb
  split at hb
  · cases hb
  · rename_i hl
    split at hb
    · rename_i zs hz
      injection hb with hb; subst hb
      have hr := rawL_body h (by omega) hz
      have ht : ((l.length : Int)).toNat = l.length := by omega
      unfold decL
      simp only [ht, hr]
      rw [if_pos (by omega), if_pos ⟨hb0, trivial⟩]
    · cases hb
theorem decL_some {b l : List Int} {count : Int} (h : decL b count = some l) : ∃ k zs, b = k :: zs ∧ tellL k l = some b ∧ (l.length : Int) = count := by
  unfold decL at h
  split at h
  · cases h
  · rename_i k zs
    split at h
    · split at h
      · rename_i h1 h2
        injection h with h
        subst h
        exact ⟨k, zs, rfl, h2.1, by omega⟩
      · cases h
    · cases h
end Go.Den
