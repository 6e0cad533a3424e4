/- A predicate is right as the document says, just where it looks right: depth, number, and each of them. -/
import Derived.Test.YtgbeijemcojnpaaPred4
namespace Go.Proofs.Ytgbeijemcojnpaa.D
open Go Go.Den
set_option linter.unusedSimpArgs false
set_option linter.unusedVariables false
set_option maxRecDepth 20000
set_option maxHeartbeats 8000000
mutual
def depP : Prd → Int
  | .mk _ _ _ _ _ l => depL l + 1
def depL : List Prd → Int
  | [] => 0
  | p :: r => if depP p < depL r then depL r else depP p
end
mutual
def cntP : Prd → Int
  | .mk _ _ _ _ _ l => cntL l + 1
def cntL : List Prd → Int
  | [] => 0
  | p :: r => cntP p + cntL r
end
theorem dep_cnt_pos (p : Prd) : 1 ≤ depP p ∧ 1 ≤ cntP p := by
  induction p using Prd.ind with
  | h k c o v n l ih =>
    have h2 : ∀ l : List Prd, (∀ q ∈ l, 1 ≤ depP q ∧ 1 ≤ cntP q) → 0 ≤ depL l ∧ 0 ≤ cntL l := by
      intro l
      induction l with
      | nil => intro _; exact ⟨Int.le_refl 0, Int.le_refl 0⟩
      | cons a r ihr =>
        intro h
        have h1 := h a List.mem_cons_self
        have h2 := ihr fun q hq => h q (List.mem_cons_of_mem _ hq)
        rw [depL, cntL]
        constructor
        · split <;> omega
        · omega
    have := h2 l ih
    rw [depP, cntP]
    omega
theorem depL_pos (l : List Prd) : 0 ≤ depL l ∧ 0 ≤ cntL l := by
  induction l with
  | nil => exact ⟨Int.le_refl 0, Int.le_refl 0⟩
  | cons a r ihr =>
    have h1 := dep_cnt_pos a
    rw [depL, cntL]
    constructor
    · split <;> omega
    · omega
/-- what deep's loop comes to, where it is not cut short -/
def maxF (f : Prd → Int × Int) : List Prd → Int
  | [] => 0
  | p :: r => if (f p).1 < maxF f r then maxF f r else (f p).1
def sumF (f : Prd → Int × Int) : List Prd → Int
  | [] => 0
  | p :: r => (f p).2 + sumF f r
theorem deepL_end {f : Prd → Int × Int} (hf : ∀ q, 0 ≤ (f q).1 ∧ 1 ≤ (f q).2) : ∀ (l : List Prd) (d n : Int), 0 ≤ d → n ≤ (deepL f l d n).2 ∧ 0 ≤ maxF f l ∧ 0 ≤ sumF f l ∧
    ((deepL f l d n).2 ≤ 64 → (deepL f l d n).1 = (if d < maxF f l then maxF f l else d) ∧ (deepL f l d n).2 = n + sumF f l) ∧ (n + sumF f l ≤ 64 → (deepL f l d n).2 ≤ 64)
  | [], d, n, hd => by
    refine ⟨Int.le_refl _, Int.le_refl _, Int.le_refl _, fun h => ⟨?_, ?_⟩, fun h => ?_⟩
    · show d = _
      rw [maxF, if_neg (by omega)]
    · show n = n + 0
      omega
    · show n ≤ 64
      rw [sumF] at h
      omega
  | q :: r, d, n, hd => by
    have h1 := hf q
    rw [deepL, maxF, sumF]
    by_cases hn : n ≤ 64
    · rw [if_pos hn]
      have ih := deepL_end hf r (if d < (f q).1 then (f q).1 else d) (n + (f q).2) (by split <;> omega)
      obtain ⟨i1, i2, i3, i4, i5⟩ := ih
      refine ⟨by omega, by split <;> omega, by omega, fun h => ?_, fun h => i5 (by omega)⟩
      obtain ⟨j1, j2⟩ := i4 h
      refine ⟨?_, by omega⟩
      rw [j1]
      (repeat' split) <;> omega
    · rw [if_neg hn]
      have ih := deepL_end hf r d n hd
      refine ⟨Int.le_refl _, by split <;> omega, by omega, fun h => absurd h hn, fun h => ?_⟩
      exfalso
      omega
theorem deepN_pos (m : Nat) (q : Prd) : 0 ≤ (deepN m q).1 ∧ 1 ≤ (deepN m q).2 := by
  have := deepN_range m q
  omega
theorem deepN_mk (m : Nat) (k c o : Int) (v : Val) (n : Bool) (l : List Prd) : deepN (m + 1) (.mk k c o v n l) = ((deepL (deepN m) l 0 1).1 + 1, if 65 < (deepL (deepN m) l 0 1).2 then 65 else (deepL (deepN m) l 0 1).2) := rfl
theorem deepN_cut : ∀ (m : Nat) (p : Prd), (deepN m p).2 ≤ 64 → (deepN m p).1 = (if depP p < m + 1 then depP p else m + 1) ∧ (depP p ≤ m → (deepN m p).2 = cntP p)
  | 0, p, _ => by
    have := (dep_cnt_pos p).1
    refine ⟨?_, fun h => ?_⟩
    · show (1 : Int) = _
      split <;> simp_all <;> omega
    · exfalso
      simp at h
      omega
  | m + 1, .mk k c o v n l, h => by
    rw [deepN_mk] at h ⊢
    dsimp only at h ⊢
    obtain ⟨e1, e2, e3, e4, e5⟩ := deepL_end (deepN_pos m) l 0 1 (Int.le_refl _)
    have h64 : (deepL (deepN m) l 0 1).2 ≤ 64 := by
      split at h <;> omega
    obtain ⟨a1, a2⟩ := e4 h64
    rw [if_neg (by omega : ¬ 65 < (deepL (deepN m) l 0 1).2)]
    have key : ∀ l : List Prd, sumF (deepN m) l ≤ 63 → maxF (deepN m) l = (if depL l < m + 1 then depL l else m + 1) ∧ (depL l ≤ m → sumF (deepN m) l = cntL l) ∧ 0 ≤ sumF (deepN m) l := by
      intro l
      induction l with
      | nil =>
        intro _
        refine ⟨?_, fun _ => rfl, Int.le_refl _⟩
        rw [maxF, depL, if_pos (by omega)]
      | cons q r ihr =>
        intro h
        rw [sumF] at h
        have hq := deepN_pos m q
        have hr0 := (deepL_end (deepN_pos m) r 0 1 (Int.le_refl _)).2.2.1
        obtain ⟨i1, i2, i3⟩ := ihr (by omega)
        obtain ⟨j1, j2⟩ := deepN_cut m q (by omega)
        have hp := dep_cnt_pos q
        have hpl := depL_pos r
        rw [maxF, depL, sumF, cntL]
        refine ⟨?_, ?_, by omega⟩
        · rw [i1, j1]
          (repeat' split) <;> omega
        · intro hd
          have hd1 : depP q ≤ m := by split at hd <;> omega
          have hd2 : depL r ≤ m := by split at hd <;> omega
          rw [i2 hd2, j2 hd1]
    obtain ⟨k1, k2, k3⟩ := key l (by omega)
    have hl0 := depL_pos l
    rw [depP, cntP]
    push_cast
    refine ⟨?_, fun hd => ?_⟩
    · rw [a1, k1]
      (repeat' split) <;> omega
    · rw [a2, k2 (by omega)]
      omega
theorem deepN_small : ∀ (m : Nat) (p : Prd), depP p ≤ m → cntP p ≤ 64 → (deepN m p).2 ≤ 64
  | 0, p, h, _ => by have := (dep_cnt_pos p).1; simp at h; omega
  | m + 1, .mk k c o v n l, h, hc => by
    rw [deepN_mk]
    dsimp only
    rw [depP] at h
    rw [cntP] at hc
    push_cast at h
    have key : ∀ l : List Prd, depL l ≤ m → cntL l ≤ 63 → sumF (deepN m) l = cntL l := by
      intro l
      induction l with
      | nil => intro _ _; rfl
      | cons q r ihr =>
        intro h1 h2
        rw [depL] at h1
        rw [cntL] at h2
        have hp := dep_cnt_pos q
        have hpl := depL_pos r
        have h3 : depP q ≤ m := by split at h1 <;> omega
        have h4 : depL r ≤ m := by split at h1 <;> omega
        have h5 := deepN_small m q h3 (by omega)
        rw [sumF, cntL, ihr h4 (by omega), (deepN_cut m q h5).2 h3]
    have hk := key l (by omega) (by omega)
    have := (deepL_end (deepN_pos m) l 0 1 (Int.le_refl _)).2.2.2.2 (by omega)
    split <;> omega
theorem okP_plain {s : List Col} {p : Prd} : okP s p = (decide (depP p ≤ 5) && (decide (cntP p ≤ 64) && rightB s p)) := by
  unfold okP
  have : ((deepN 6 p).1 ≤ 5 ∧ (deepN 6 p).2 ≤ 64) ↔ (depP p ≤ 5 ∧ cntP p ≤ 64) := by
    constructor
    · rintro ⟨h1, h2⟩
      obtain ⟨a, b⟩ := deepN_cut 6 p h2
      have hd : depP p ≤ 5 := by
        rw [a] at h1
        split at h1 <;> simp_all <;> omega
      exact ⟨hd, by rw [← b (by simp; omega)]; exact h2⟩
    · rintro ⟨h1, h2⟩
      have h3 := deepN_small 6 p (by simp; omega) h2
      obtain ⟨a, b⟩ := deepN_cut 6 p h3
      refine ⟨?_, h3⟩
      rw [a]
      split
      · exact h1
      · rename_i hn
        simp at hn
        omega
  rw [← Bool.and_assoc, ← Bool.and_assoc]
  congr 1
  rw [Bool.eq_iff_iff]
  simpa using this
/-- each of them -/
theorem zero_none (v : Val) : zeroB v = noneV v := by
  obtain ⟨nl, k, i, o⟩ := v
  unfold zeroB noneV sameV valZ Val.b
  dsimp only
  have hb : (((bz o).map toU8) == ((bz none).map toU8)) = decide (((bz o).length : Int) = 0) := by
    cases h : bz o with
    | nil => rfl
    | cons a r =>
      rw [List.map_cons]
      rw [show ((bz (none : Option (List Int))).map toU8) = [] from rfl]
      simp
      omega
  rw [hb]
  cases nl <;> rfl
theorem value_isV (kind : Int) (v : Val) : valueB kind v = (isV v && decide (v.kind = kind)) := by
  obtain ⟨nl, k, i, o⟩ := v
  unfold valueB isV
  dsimp only
  have c0 : (((bz o).length : Int) = 0) = ((bz o).length = 0) := propext (by omega)
  have c64 : (((bz o).length : Int) ≤ 64) = ((bz o).length ≤ 64) := propext (by omega)
  simp only [c0, c64]
  by_cases hk : k = kind
  · subst hk
    by_cases h1 : k = 1
    · subst h1
      cases nl <;> simp
      rw [Bool.and_comm]
    · by_cases h2 : k = 2
      · subst h2
        cases nl <;> simp
        rw [Bool.and_comm]
      · simp [h1, h2]
  · simp [hk]
def nodeB (s : List Col) (k c o : Int) (v : Val) (n : Nat) : Bool := oneB s k c o v n
theorem right_node (s : List Col) (k c o : Int) (v : Val) (nl : Bool) (l : List Prd) : rightB s (.mk k c o v nl l) = (oneB s k c o v l.length && rightsB s l) := by
  rw [rightB, oneB]
  have z := zero_none v
  have c0 : ((l.length : Int) = 0) = (l.length = 0) := propext (by omega)
  have c1 : ((l.length : Int) = 1) = (l.length = 1) := propext (by omega)
  have c8 : (8 < (l.length : Int)) = (8 < l.length) := propext (by omega)
  simp only [plainB, bareB, z, c0, c1, c8, value_isV, inB]
  have hnil : l.length = 0 → rightsB s l = true := by
    intro h
    rw [List.length_eq_zero_iff.1 h]
    rfl
  by_cases h1 : k = 1
  · rw [if_pos h1, if_pos h1]
    by_cases hl : l.length = 0
    · simp [hl, hnil hl]
    · simp [hl]
  rw [if_neg h1, if_neg h1]
  by_cases h2 : k = 2
  · rw [if_pos h2, if_pos h2]
    by_cases hl : l.length = 0
    · simp only [hl, hnil hl, decide_true, Bool.true_and, Bool.and_true]
      cases decide (0 ≤ c) <;> cases decide (c < (s.length : Int)) <;> cases decide (1 ≤ o) <;> cases decide (o ≤ 6) <;> cases v.null <;> cases isV v <;> cases decide (v.kind = kindAt s c) <;> rfl
    · simp [hl]
  rw [if_neg h2, if_neg h2]
  by_cases h3 : k = 3
  · rw [if_pos h3, if_pos h3]
    by_cases hl : l.length = 0
    · simp only [hl, hnil hl, decide_true, Bool.true_and, Bool.and_true]
      cases decide (0 ≤ c) <;> cases decide (c < (s.length : Int)) <;> cases decide (o = 0) <;> cases noneV v <;> rfl
    · simp [hl]
  rw [if_neg h3, if_neg h3]
  by_cases h4 : k = 4
  · rw [if_pos (.inl h4), if_pos h4]
    by_cases hb : (decide (c = 0) && (decide (o = 0) && noneV v)) = false
    · rw [if_pos hb, hb]; rfl
    · rw [if_neg hb]
      have hb' : (decide (c = 0) && (decide (o = 0) && noneV v)) = true := by simpa using hb
      rw [hb']
      by_cases h8 : 8 < l.length
      · rw [if_pos h8, decide_eq_false (by omega)]; rfl
      · rw [if_neg h8, if_neg (by rintro ⟨h, _⟩; omega), decide_eq_true (by omega : l.length ≤ 8)]; rfl
  rw [if_neg h4]
  by_cases h5 : k = 5
  · rw [if_pos (.inr (.inl h5)), if_pos h5]
    by_cases hb : (decide (c = 0) && (decide (o = 0) && noneV v)) = false
    · rw [if_pos hb, hb]; rfl
    · rw [if_neg hb]
      have hb' : (decide (c = 0) && (decide (o = 0) && noneV v)) = true := by simpa using hb
      rw [hb']
      by_cases h8 : 8 < l.length
      · rw [if_pos h8, decide_eq_false (by omega)]; rfl
      · rw [if_neg h8, if_neg (by rintro ⟨h, _⟩; omega), decide_eq_true (by omega : l.length ≤ 8)]; rfl
  rw [if_neg h5]
  by_cases h6 : k = 6
  · rw [if_pos (.inr (.inr h6)), if_pos h6]
    by_cases hb : (decide (c = 0) && (decide (o = 0) && noneV v)) = false
    · rw [if_pos hb, hb]; rfl
    · rw [if_neg hb]
      have hb' : (decide (c = 0) && (decide (o = 0) && noneV v)) = true := by simpa using hb
      rw [hb']
      by_cases h8 : 8 < l.length
      · rw [if_pos h8, decide_eq_false (by omega)]; rfl
      · rw [if_neg h8]
        by_cases hl : l.length = 1
        · rw [if_neg (by rintro ⟨_, h⟩; exact h hl), decide_eq_true hl]; rfl
        · rw [if_pos ⟨h6, hl⟩, decide_eq_false hl]; rfl
  rw [if_neg h6, if_neg (by rintro (h | h | h) <;> contradiction)]
  rfl
theorem lookP_plain (s : List Col) (p : Prd) : ∀ d n : Int, 0 ≤ d → 0 ≤ n → n ≤ 64 → ((lookP s p d n).1 = true ↔ (depP p ≤ d ∧ n + cntP p ≤ 64 ∧ rightB s p = true)) ∧ ((lookP s p d n).1 = true → (lookP s p d n).2 = n + cntP p) := by
  induction p using Prd.ind with
  | h k c o v nl l ih =>
    intro d n hd hn hn64
    rw [lookP, depP, cntP, right_node]
    have hpl := depL_pos l
    by_cases h : d = 0 ∨ 64 < n + 1 ∨ oneB s k c o v l.length = false
    · rw [if_pos h]
      refine ⟨⟨fun h => (by cases h), fun ⟨a, b, c⟩ => ?_⟩, fun h => by cases h⟩
      rcases h with h | h | h
      · omega
      · omega
      · rw [h] at c; cases c
    · rw [if_neg h]
      have h1 : d ≠ 0 := fun e => h (.inl e)
      have h2 : n + 1 ≤ 64 := by
        by_cases hh : 64 < n + 1
        · exact absurd (.inr (.inl hh)) h
        · omega
      have h3 : oneB s k c o v l.length = true := by
        cases hh : oneB s k c o v l.length with
        | true => rfl
        | false => exact absurd (.inr (.inr hh)) h
      rw [h3, Bool.true_and]
      have key : ∀ (l' : List Prd), (∀ q ∈ l', q ∈ l) → ∀ m : Int, 0 ≤ m → m ≤ 64 → ((lookL s l' (d - 1) m).1 = true ↔ (depL l' ≤ d - 1 ∧ m + cntL l' ≤ 64 ∧ rightsB s l' = true)) ∧ ((lookL s l' (d - 1) m).1 = true → (lookL s l' (d - 1) m).2 = m + cntL l') := by
        intro l'
        induction l' with
        | nil =>
          intro _ m h0 h64
          rw [lookL, depL, cntL, rightsB]
          refine ⟨⟨fun _ => ⟨by omega, by omega, rfl⟩, fun _ => rfl⟩, fun _ => ?_⟩
          show m = m + 0
          omega
        | cons q r ihr =>
          intro hm m h0 h64
          have hq := ih q (hm q List.mem_cons_self) (d - 1) m (by omega) h0 h64
          have hu := lookP_up s q (d - 1) m h0 h64
          have hp := dep_cnt_pos q
          have hpr := depL_pos r
          rw [lookL, depL, cntL, rightsB]
          rcases hr : lookP s q (d - 1) m with ⟨b, m'⟩
          rw [hr] at hq hu
          dsimp only at hq hu
          cases b with
          | false =>
            dsimp only
            refine ⟨⟨fun h => (by cases h), fun ⟨a1, a2, a3⟩ => ?_⟩, fun h => by cases h⟩
            have : depP q ≤ d - 1 := by split at a1 <;> omega
            simp only [Bool.and_eq_true] at a3
            exact absurd (hq.1.2 ⟨this, by omega, a3.1⟩) (by simp)
          | true =>
            dsimp only
            obtain ⟨b1, b2, b3⟩ := hq.1.1 rfl
            have b4 := hq.2 rfl
            have ihr' := ihr (fun x hx => hm x (List.mem_cons_of_mem _ hx)) m' (by omega) (by omega)
            rw [b3, Bool.true_and]
            refine ⟨ihr'.1.trans ⟨fun ⟨a1, a2, a3⟩ => ⟨by split <;> omega, by omega, a3⟩, fun ⟨a1, a2, a3⟩ => ⟨by split at a1 <;> omega, by omega, a3⟩⟩, fun h => by rw [ihr'.2 h]; omega⟩
      have hk := key l (fun q hq => hq) (n + 1) (by omega) h2
      refine ⟨hk.1.trans ⟨fun ⟨a1, a2, a3⟩ => ⟨by omega, by omega, a3⟩, fun ⟨a1, a2, a3⟩ => ⟨by omega, by omega, a3⟩⟩, fun h => by rw [hk.2 h]; omega⟩
theorem look_ok (s : List Col) (p : Prd) : (lookP s p 5 0).1 = okP s p := by
  rw [okP_plain, Bool.eq_iff_iff, (lookP_plain s p 5 0 (by decide) (by decide) (by decide)).1]
  simp
end Go.Proofs.Ytgbeijemcojnpaa.D
