/- Den: the document's own columns in plain words: rows of bytes. No program in sight. -/
import Derived.Test.YtmaehmacngldbaaDenK4
set_option linter.unusedVariables false
set_option linter.unusedSimpArgs false
namespace Go.Den
open Go Go.RowKit

/-! ### the order of bytes -/
def ltB : List Int → List Int → Bool
  | _, [] => false
  | [], _ :: _ => true
  | x :: xs, y :: ys => decide (x < y) || (decide (x = y) && ltB xs ys)
theorem bytesLess_ltB : ∀ {a b : List Int}, R8 a → R8 b → Op.bytesLess (a.map toU8) (b.map toU8) = ltB a b
  | [], [], _, _ => rfl
  | _ :: _, [], _, _ => rfl
  | [], _ :: _, _, _ => rfl
  | x :: xs, y :: ys, ha, hb => by
    have h1 := ha x (by simp)
    have h2 := hb y (by simp)
    have ih := bytesLess_ltB (a := xs) (b := ys) (fun z hz => ha z (by simp [hz])) (fun z hz => hb z (by simp [hz]))
    simp only [List.map_cons, Op.bytesLess, ltB, ih]
    have e1 : (toU8 x < toU8 y) = (x < y) := by
      unfold toU8
      simp only [UInt8.lt_iff_toNat_lt, UInt8.toNat_ofNat', eq_iff_iff]
      omega
    have e2 : (toU8 x == toU8 y) = decide (x = y) := by
      rw [Bool.eq_iff_iff]
      simp only [beq_iff_eq, decide_eq_true_eq]
      unfold toU8
      constructor
      · intro h
        have := congrArg UInt8.toNat h
        simp only [UInt8.toNat_ofNat'] at this
        omega
      · intro h; rw [h]
    rw [e2]
    simp only [e1]
theorem ltB_irrefl : ∀ (a : List Int), ltB a a = false
  | [] => rfl
  | x :: xs => by simp [ltB, ltB_irrefl xs]
theorem ltB_trans : ∀ {a b c : List Int}, ltB a b = true → ltB b c = true → ltB a c = true
  | _, [], _, h, _ => by simp [ltB] at h
  | _, _ :: _, [], _, h => by simp [ltB] at h
  | [], _ :: _, _ :: _, _, _ => rfl
  | x :: xs, y :: ys, z :: zs, h1, h2 => by
    simp only [ltB, Bool.or_eq_true, decide_eq_true_eq, Bool.and_eq_true] at h1 h2 ⊢
    rcases h1 with h1 | ⟨rfl, h1⟩ <;> rcases h2 with h2 | ⟨rfl, h2⟩
    · left; omega
    · left; exact h1
    · left; exact h2
    · right; exact ⟨rfl, ltB_trans h1 h2⟩
theorem ltB_total : ∀ {a b : List Int}, ltB a b = false → ltB b a = false → a = b
  | [], [], _, _ => rfl
  | [], _ :: _, h, _ => by simp [ltB] at h
  | _ :: _, [], _, h => by simp [ltB] at h
  | x :: xs, y :: ys, h1, h2 => by
    simp only [ltB, Bool.or_eq_false_iff, decide_eq_false_iff_not, Bool.and_eq_false_iff] at h1 h2
    have hxy : x = y := by omega
    subst hxy
    rcases h1.2 with h | h
    · exact absurd rfl h
    rcases h2.2 with h' | h'
    · exact absurd rfl h'
    · rw [ltB_total h h']
theorem ltB_asymm {a b : List Int} (h : ltB a b = true) : ltB b a = false := by
  cases h' : ltB b a with
  | false => rfl
  | true => rw [← ltB_irrefl a]; exact (ltB_trans h h').symm

/-! ### rows of bytes, some of them nil -/
abbrev RB' := Option (List Int)
def brow (o : RB') : List PV := [bl o]
def BG (L : List RB') : Prop := ∀ o ∈ L, R8 (bz o) ∧ (bz o).length ≤ 1000000
def posO (out : List RB') (x : List Int) : Nat := (out.takeWhile fun y => ltB (bz y) x).length
def insO (out : List RB') (o : RB') : List RB' := if (out[posO out (bz o)]?).map bz = some (bz o) then out else out.take (posO out (bz o)) ++ o :: out.drop (posO out (bz o))
def unlikeO (l : List RB') : List RB' := l.foldl insO []
def SB (l : List RB') : Prop := l.Pairwise fun a b => ltB (bz a) (bz b) = true
theorem posO_le (out : List RB') (x : List Int) : posO out x ≤ out.length := (List.takeWhile_sublist _).length_le
theorem posO_lt {out : List RB'} {x : List Int} {j : Nat} {o : RB'} (h : j < posO out x) (ho : out[j]? = some o) : ltB (bz o) x = true := by
  induction out generalizing j with
  | nil => simp at ho
  | cons y r ih =>
    unfold posO at h
    rw [List.takeWhile_cons] at h
    split at h
    · rename_i hy
      cases j with
      | zero => simp at ho; subst ho; exact hy
      | succ j => exact ih (j := j) (by unfold posO; simpa using h) (by simpa using ho)
    · simp at h
theorem posO_end {out : List RB'} {x : List Int} {o : RB'} (ho : out[posO out x]? = some o) : ltB (bz o) x = false := by
  induction out with
  | nil => simp at ho
  | cons y r ih =>
    unfold posO at ho ih
    rw [List.takeWhile_cons] at ho
    split at ho
    · exact ih (by simpa using ho)
    · rename_i hy
      simp at ho
      subst ho
      simpa using hy
theorem posO_is {out : List RB'} {x : List Int} {k : Nat} (hk : k ≤ out.length) (h1 : ∀ j, j < k → ∀ o, out[j]? = some o → ltB (bz o) x = true) (h2 : ∀ o, out[k]? = some o → ltB (bz o) x = false) : posO out x = k := by
  have h3 : ¬ k < posO out x := fun h => by
    have hlt : k < out.length := Nat.lt_of_lt_of_le h (posO_le out x)
    have := posO_lt h (List.getElem?_eq_getElem hlt)
    rw [h2 _ (List.getElem?_eq_getElem hlt)] at this
    cases this
  have h4 : ¬ posO out x < k := fun h => by
    have hlt : posO out x < out.length := Nat.lt_of_lt_of_le h hk
    have := posO_end (List.getElem?_eq_getElem hlt)
    rw [h1 _ h _ (List.getElem?_eq_getElem hlt)] at this
    cases this
  omega
theorem insO_sorted {out : List RB'} {o : RB'} (h : SB out) : SB (insO out o) := by
  unfold insO
  split
  · exact h
  · rename_i hne
    have hsplit := List.take_append_drop (posO out (bz o)) out
    have h' : SB (out.take (posO out (bz o)) ++ out.drop (posO out (bz o))) := by rw [hsplit]; exact h
    unfold SB at h' ⊢
    rw [List.pairwise_append] at h' ⊢
    obtain ⟨p1, p2, p3⟩ := h'
    have hdrop : ∀ y ∈ out.drop (posO out (bz o)), ltB (bz o) (bz y) = true := by
      cases hd : out.drop (posO out (bz o)) with
      | nil => intro y hy; simp at hy
      | cons z r =>
        have hz : out[posO out (bz o)]? = some z := by
          have := congrArg (fun l => l[0]?) hd
          simpa [List.getElem?_drop] using this
        have h1 := posO_end hz
        have h2 : ltB (bz o) (bz z) = true := by
          cases hq : ltB (bz o) (bz z) with
          | true => rfl
          | false =>
            exfalso
            refine hne ?_
            rw [hz, Option.map_some, ltB_total h1 hq]
        rw [hd] at p2
        intro y hy
        rcases List.mem_cons.1 hy with rfl | hy
        · exact h2
        · exact ltB_trans h2 ((List.pairwise_cons.1 p2).1 y hy)
    refine ⟨p1, List.pairwise_cons.2 ⟨hdrop, p2⟩, fun a ha b hb => ?_⟩
    have hao : ltB (bz a) (bz o) = true := by
      obtain ⟨j, hj⟩ := List.getElem?_of_mem ha
      have hjl : j < posO out (bz o) := by
        have := (List.getElem?_eq_some_iff.1 hj).1
        rw [List.length_take] at this
        omega
      exact posO_lt hjl (by rw [← hj, List.getElem?_take_of_lt hjl])
    rcases List.mem_cons.1 hb with rfl | hb
    · exact hao
    · exact p3 a ha b hb
theorem insO_mem {out : List RB'} {o : RB'} {x : List Int} : (∃ y ∈ insO out o, bz y = x) ↔ (∃ y ∈ out, bz y = x) ∨ bz o = x := by
  unfold insO
  split
  · rename_i he
    constructor
    · intro h; exact .inl h
    · rintro (h | rfl)
      · exact h
      · obtain ⟨y, hy, e⟩ := Option.map_eq_some_iff.1 he
        exact ⟨y, List.mem_of_getElem? hy, e⟩
  · constructor
    · rintro ⟨y, hy, e⟩
      rcases List.mem_append.1 hy with hy | hy
      · exact .inl ⟨y, List.mem_of_mem_take hy, e⟩
      · rcases List.mem_cons.1 hy with rfl | hy
        · exact .inr e
        · exact .inl ⟨y, List.mem_of_mem_drop hy, e⟩
    · rintro (⟨y, hy, e⟩ | rfl)
      · rw [← List.take_append_drop (posO out (bz o)) out] at hy
        refine ⟨y, ?_, e⟩
        rcases List.mem_append.1 hy with hy | hy
        · exact List.mem_append.2 (.inl hy)
        · exact List.mem_append.2 (.inr (List.mem_cons_of_mem _ hy))
      · exact ⟨o, List.mem_append.2 (.inr (by simp)), rfl⟩
theorem insO_sub {out : List RB'} {o y : RB'} (h : y ∈ insO out o) : y ∈ out ∨ y = o := by
  unfold insO at h
  split at h
  · exact .inl h
  · rcases List.mem_append.1 h with h | h
    · exact .inl (List.mem_of_mem_take h)
    · rcases List.mem_cons.1 h with rfl | h
      · exact .inr rfl
      · exact .inl (List.mem_of_mem_drop h)
theorem insO_len (out : List RB') (o : RB') : (insO out o).length ≤ out.length + 1 := by
  unfold insO
  split
  · omega
  · have := posO_le out (bz o)
    simp only [List.length_append, List.length_cons, List.length_take, List.length_drop]
    omega
theorem foldIns (l : List RB') : ∀ (out : List RB'), SB out → SB (l.foldl insO out) ∧ (∀ x, (∃ y ∈ l.foldl insO out, bz y = x) ↔ (∃ y ∈ out, bz y = x) ∨ ∃ y ∈ l, bz y = x) ∧ (∀ y ∈ l.foldl insO out, y ∈ out ∨ y ∈ l) ∧ (l.foldl insO out).length ≤ out.length + l.length := by
  induction l with
  | nil => intro out h; exact ⟨h, fun x => by simp, fun y hy => .inl hy, by simp⟩
  | cons o r ih =>
    intro out h
    obtain ⟨h1, h2, h3, h4⟩ := ih (insO out o) (insO_sorted h)
    rw [List.foldl_cons]
    refine ⟨h1, fun x => ?_, fun y hy => ?_, ?_⟩
    · rw [h2 x, insO_mem]
      constructor
      · rintro ((h | h) | ⟨y, hy, e⟩)
        · exact .inl h
        · exact .inr ⟨o, by simp, h⟩
        · exact .inr ⟨y, by simp [hy], e⟩
      · rintro (h | ⟨y, hy, e⟩)
        · exact .inl (.inl h)
        · rcases List.mem_cons.1 hy with rfl | hy
          · exact .inl (.inr e)
          · exact .inr ⟨y, hy, e⟩
    · rcases h3 y hy with h | h
      · rcases insO_sub h with h | rfl
        · exact .inl h
        · exact .inr (by simp)
      · exact .inr (by simp [h])
    · have := insO_len out o
      simp only [List.length_cons]
      omega
theorem unlikeO_sorted (l : List RB') : SB (unlikeO l) := (foldIns l [] List.Pairwise.nil).1
theorem unlikeO_mem (l : List RB') (x : List Int) : (∃ y ∈ unlikeO l, bz y = x) ↔ ∃ y ∈ l, bz y = x := by
  have := (foldIns l [] List.Pairwise.nil).2.1 x
  simpa [unlikeO] using this
theorem unlikeO_sub {l : List RB'} {y : RB'} (h : y ∈ unlikeO l) : y ∈ l := by
  rcases (foldIns l [] List.Pairwise.nil).2.2.1 y h with h | h
  · simp at h
  · exact h
theorem unlikeO_len (l : List RB') : (unlikeO l).length ≤ l.length := by
  have := (foldIns l [] List.Pairwise.nil).2.2.2
  simpa [unlikeO] using this
theorem unlikeO_snoc (l : List RB') (o : RB') : unlikeO (l ++ [o]) = insO (unlikeO l) o := by simp [unlikeO, List.foldl_append]
/-- what is sorted is told by its members -/
theorem SB_unique : ∀ {a b : List (List Int)}, a.Pairwise (fun x y => ltB x y = true) → b.Pairwise (fun x y => ltB x y = true) → (∀ x, x ∈ a ↔ x ∈ b) → a = b
  | [], [], _, _, _ => rfl
  | [], y :: _, _, _, h => by have := (h y).2 (by simp); simp at this
  | x :: _, [], _, _, h => by have := (h x).1 (by simp); simp at this
  | x :: xs, y :: ys, ha, hb, h => by
    rw [List.pairwise_cons] at ha hb
    have hxy : x = y := by
      rcases List.mem_cons.1 ((h x).1 (by simp)) with e | e
      · exact e
      · rcases List.mem_cons.1 ((h y).2 (by simp)) with e' | e'
        · exact e'.symm
        · have h1 := hb.1 x e
          have h2 := ha.1 y e'
          rw [ltB_asymm h1] at h2
          cases h2
    subst hxy
    rw [SB_unique ha.2 hb.2 fun z => ?_]
    constructor
    · intro hz
      rcases List.mem_cons.1 ((h z).1 (by simp [hz])) with rfl | e
      · have := ha.1 z hz; rw [ltB_irrefl] at this; cases this
      · exact e
    · intro hz
      rcases List.mem_cons.1 ((h z).2 (by simp [hz])) with rfl | e
      · have := hb.1 z hz; rw [ltB_irrefl] at this; cases this
      · exact e
def idxO (w : List RB') (x : List Int) : Nat := (w.takeWhile fun y => decide (bz y ≠ x)).length
theorem idxO_le (w : List RB') (x : List Int) : idxO w x ≤ w.length := (List.takeWhile_sublist _).length_le
theorem idxO_lt {w : List RB'} {x : List Int} {j : Nat} {o : RB'} (h : j < idxO w x) (ho : w[j]? = some o) : bz o ≠ x := by
  induction w generalizing j with
  | nil => simp at ho
  | cons y r ih =>
    unfold idxO at h
    rw [List.takeWhile_cons] at h
    split at h
    · rename_i hy
      cases j with
      | zero => simp at ho; subst ho; simpa using hy
      | succ j => exact ih (j := j) (by unfold idxO; simpa using h) (by simpa using ho)
    · simp at h
theorem idxO_end {w : List RB'} {x : List Int} {o : RB'} (ho : w[idxO w x]? = some o) : bz o = x := by
  induction w with
  | nil => simp at ho
  | cons y r ih =>
    unfold idxO at ho ih
    rw [List.takeWhile_cons] at ho
    split at ho
    · exact ih (by simpa using ho)
    · rename_i hy
      simp at ho hy
      subst ho
      exact hy
theorem idxO_mem {w : List RB'} {x : List Int} (h : ∃ y ∈ w, bz y = x) : ∃ o, w[idxO w x]? = some o ∧ bz o = x := by
  obtain ⟨y, hy, e⟩ := h
  obtain ⟨j, hj⟩ := List.getElem?_of_mem hy
  have h1 : idxO w x < w.length := by
    have h2 := idxO_le w x
    have h3 : ¬ j < idxO w x := fun h => idxO_lt h hj e
    have h4 := (List.getElem?_eq_some_iff.1 hj).1
    omega
  exact ⟨_, List.getElem?_eq_getElem h1, idxO_end (List.getElem?_eq_getElem h1)⟩
theorem idxO_is {w : List RB'} {x : List Int} {k : Nat} {o : RB'} (hk : w[k]? = some o) (ho : bz o = x) (h : ∀ j, j < k → ∀ y, w[j]? = some y → bz y ≠ x) : idxO w x = k := by
  have hlt := (List.getElem?_eq_some_iff.1 hk).1
  have h3 : ¬ k < idxO w x := fun h => idxO_lt h hk ho
  have h4 : ¬ idxO w x < k := fun h' => by
    have hl : idxO w x < w.length := by omega
    exact h _ h' _ (List.getElem?_eq_getElem hl) (idxO_end (List.getElem?_eq_getElem hl))
  omega

/-! ### numbers as bytes -/
def txU (u : Int) : List Int := [u / 72057594037927936 % 256, u / 281474976710656 % 256, u / 1099511627776 % 256, u / 4294967296 % 256, u / 16777216 % 256, u / 65536 % 256, u / 256 % 256, u % 256]
def tx (x : Int) : List Int := txU (x + 9223372036854775808)
def u64f (zs : List Int) : Int := zs.foldl (fun u c => (u * 256 % 18446744073709551616) + c) 0
def n64 (zs : List Int) : Int := u64f zs - 9223372036854775808
theorem txU_R8 (u : Int) : R8 (txU u) := by
  intro z hz
  simp only [txU, List.mem_cons, List.not_mem_nil, or_false] at hz
  omega
theorem tx_R8 (x : Int) : R8 (tx x) := txU_R8 _
theorem tx_len (x : Int) : (tx x).length = 8 := rfl
theorem u64f_txU {u : Int} (h0 : 0 ≤ u) (h1 : u < 18446744073709551616) : u64f (txU u) = u := by
  obtain ⟨a, ha⟩ : ∃ a, u / 256 = a := ⟨_, rfl⟩
  obtain ⟨b, hb⟩ : ∃ b, a / 256 = b := ⟨_, rfl⟩
  obtain ⟨c, hc⟩ : ∃ c, b / 256 = c := ⟨_, rfl⟩
  obtain ⟨d, hd⟩ : ∃ d, c / 256 = d := ⟨_, rfl⟩
  obtain ⟨e, he⟩ : ∃ e, d / 256 = e := ⟨_, rfl⟩
  obtain ⟨f, hf⟩ : ∃ f, e / 256 = f := ⟨_, rfl⟩
  obtain ⟨g, hg⟩ : ∃ g, f / 256 = g := ⟨_, rfl⟩
  have e1 : u / 65536 = b := by omega
  have e2 : u / 16777216 = c := by omega
  have e3 : u / 4294967296 = d := by omega
  have e4 : u / 1099511627776 = e := by omega
  have e5 : u / 281474976710656 = f := by omega
  have e6 : u / 72057594037927936 = g := by omega
  simp only [txU, u64f, List.foldl_cons, List.foldl_nil, ha, e1, e2, e3, e4, e5, e6]
  clear e1 e2 e3 e4 e5 e6
  rw [show (0 * 256 % 18446744073709551616 + g % 256 : Int) = g by omega, show (g * 256 % 18446744073709551616 + f % 256 : Int) = f by omega, show (f * 256 % 18446744073709551616 + e % 256 : Int) = e by omega, show (e * 256 % 18446744073709551616 + d % 256 : Int) = d by omega,
    show (d * 256 % 18446744073709551616 + c % 256 : Int) = c by omega, show (c * 256 % 18446744073709551616 + b % 256 : Int) = b by omega, show (b * 256 % 18446744073709551616 + a % 256 : Int) = a by omega]
  omega
theorem n64_tx {x : Int} (h : -9223372036854775808 ≤ x ∧ x < 9223372036854775808) : n64 (tx x) = x := by
  unfold n64 tx
  rw [u64f_txU (by omega) (by omega)]
  omega
theorem u64f_r {zs : List Int} (h : R8 zs) : 0 ≤ u64f zs ∧ u64f zs < 18446744073709551616 := by
  have key : ∀ (zs : List Int) (u : Int), R8 zs → 0 ≤ u ∧ u < 18446744073709551616 → 0 ≤ zs.foldl (fun u c => (u * 256 % 18446744073709551616) + c) u ∧ zs.foldl (fun u c => (u * 256 % 18446744073709551616) + c) u < 18446744073709551616 := by
    intro zs
    induction zs with
    | nil => intro u _ hu; exact hu
    | cons c r ih =>
      intro u hz hu
      have h1 := hz c (by simp)
      rw [List.foldl_cons]
      exact ih _ (fun z h => hz z (by simp [h])) (by omega)
  exact key zs 0 h (by decide)
theorem n64_r {zs : List Int} (h : R8 zs) : -9223372036854775808 ≤ n64 zs ∧ n64 zs < 9223372036854775808 := by
  have := u64f_r h
  unfold n64; omega
theorem ltB_snoc : ∀ {a b : List Int} {x y : Int}, a.length = b.length → ltB (a ++ [x]) (b ++ [y]) = (ltB a b || (decide (a = b) && decide (x < y)))
  | [], [], x, y, _ => by simp [ltB]
  | [], _ :: _, _, _, h => by simp at h
  | _ :: _, [], _, _, h => by simp at h
  | p :: a, q :: b, x, y, h => by
    have ih := ltB_snoc (a := a) (b := b) (x := x) (y := y) (by simpa using h)
    simp only [List.cons_append, ltB, ih, List.cons.injEq]
    rw [Bool.eq_iff_iff]
    simp only [Bool.or_eq_true, decide_eq_true_eq, Bool.and_eq_true]
    constructor
    · rintro (h | ⟨h1, h | ⟨h2, h3⟩⟩)
      · exact .inl (.inl h)
      · exact .inl (.inr ⟨h1, h⟩)
      · exact .inr ⟨⟨h1, h2⟩, h3⟩
    · rintro ((h | ⟨h1, h⟩) | ⟨⟨h1, h2⟩, h3⟩)
      · exact .inl h
      · exact .inr ⟨h1, .inl h⟩
      · exact .inr ⟨h1, .inr ⟨h2, h3⟩⟩
def dig : Nat → Int → List Int
  | 0, _ => []
  | n + 1, u => dig n (u / 256) ++ [u % 256]
theorem dig_len : ∀ (n : Nat) (u : Int), (dig n u).length = n
  | 0, _ => rfl
  | n + 1, u => by simp [dig, dig_len n]
theorem dig_lt : ∀ (n : Nat) {u v : Int}, 0 ≤ u → 0 ≤ v → u < 256 ^ n → v < 256 ^ n → ltB (dig n u) (dig n v) = decide (u < v) ∧ (dig n u = dig n v → u = v)
  | 0, u, v, h0, h1, h2, h3 => by
    have e1 : u = 0 := by simp at h2; omega
    have e2 : v = 0 := by simp at h3; omega
    subst e1; subst e2
    exact ⟨by simp [dig, ltB], fun _ => rfl⟩
  | n + 1, u, v, h0, h1, h2, h3 => by
    rw [Int.pow_succ] at h2 h3
    obtain ⟨i1, i2⟩ := dig_lt n (u := u / 256) (v := v / 256) (by omega) (by omega) (Int.ediv_lt_of_lt_mul (by decide) h2) (Int.ediv_lt_of_lt_mul (by decide) h3)
    refine ⟨?_, fun h => ?_⟩
    · rw [dig, dig, ltB_snoc (by rw [dig_len, dig_len]), i1, Bool.eq_iff_iff]
      simp only [Bool.or_eq_true, decide_eq_true_eq, Bool.and_eq_true]
      constructor
      · rintro (h | ⟨h, h'⟩)
        · omega
        · have := i2 h; omega
      · intro h
        by_cases hq : u / 256 < v / 256
        · exact .inl hq
        · refine .inr ⟨?_, by omega⟩
          rw [show u / 256 = v / 256 by omega]
    · rw [dig, dig] at h
      obtain ⟨a, b⟩ := List.append_inj h (by rw [dig_len, dig_len])
      have := i2 a
      injection b with b _
      omega
theorem txU_dig (u : Int) : txU u = dig 8 u := by
  simp only [txU, dig, List.nil_append, List.cons_append]
  congr 1
  · omega
  congr 1
  · omega
  congr 1
  · omega
  congr 1
  · omega
  congr 1
  · omega
  congr 1
  · omega
theorem ltB_txU {u v : Int} (h0 : 0 ≤ u) (h1 : u < 18446744073709551616) (h2 : 0 ≤ v) (h3 : v < 18446744073709551616) : ltB (txU u) (txU v) = decide (u < v) := by
  rw [txU_dig, txU_dig]
  exact (dig_lt 8 h0 h2 h1 h3).1
theorem ltB_tx {x y : Int} (hx : -9223372036854775808 ≤ x ∧ x < 9223372036854775808) (hy : -9223372036854775808 ≤ y ∧ y < 9223372036854775808) : ltB (tx x) (tx y) = decide (x < y) := by
  unfold tx
  rw [ltB_txU (by omega) (by omega) (by omega) (by omega)]
  congr 1
  exact propext ⟨fun h => by omega, fun h => by omega⟩
theorem tx_inj {x y : Int} (hx : -9223372036854775808 ≤ x ∧ x < 9223372036854775808) (hy : -9223372036854775808 ≤ y ∧ y < 9223372036854775808) (h : tx x = tx y) : x = y := by
  rw [← n64_tx hx, h, n64_tx hy]

/-! ### told -/
def toldO (nums : Bool) (o : RB') : List Int := if nums then num (zig (n64 (bz o))) else num ((bz o).length : Int) ++ bz o
def toldL (nums : Bool) (L : List RB') : List Int := L.flatMap (toldO nums)
theorem toldL_snoc (nums : Bool) (L : List RB') (o : RB') : toldL nums (L ++ [o]) = toldL nums L ++ toldO nums o := by simp [toldL, List.flatMap_append]
theorem toldL_cons (nums : Bool) (o : RB') (L : List RB') : toldL nums (o :: L) = toldO nums o ++ toldL nums L := rfl
def rnO (x : RB') (l : List RB') : Nat := (l.takeWhile fun y => decide (bz y = bz x)).length
theorem rnO_le (x : RB') (l : List RB') : rnO x l ≤ l.length := (List.takeWhile_sublist _).length_le
theorem rnO_get {x : RB'} {l : List RB'} {j : Nat} (h : j < rnO x l) : ∃ y, l[j]? = some y ∧ bz y = bz x := by
  induction l generalizing j with
  | nil => simp [rnO] at h
  | cons y r ih =>
    unfold rnO at h
    rw [List.takeWhile_cons] at h
    split at h
    · rename_i hy
      cases j with
      | zero => exact ⟨y, by simp, by simpa using hy⟩
      | succ j => simpa using ih (j := j) (by unfold rnO; simpa using h)
    · simp at h
theorem rnO_end {x y : RB'} {l : List RB'} (h : l[rnO x l]? = some y) : bz y ≠ bz x := by
  induction l with
  | nil => simp at h
  | cons z r ih =>
    unfold rnO at h ih
    rw [List.takeWhile_cons] at h
    split at h
    · exact ih (by simpa using h)
    · rename_i hz
      simp at h hz
      subst h
      exact hz
def rnsO (nums : Bool) : List RB' → List Int
  | [] => []
  | x :: r => num ((1 + rnO x r : Nat) : Int) ++ toldO nums x ++ rnsO nums (r.drop (rnO x r))
termination_by l => l.length
decreasing_by simp; omega
theorem rnsO_nil (nums : Bool) : rnsO nums [] = [] := by rw [rnsO]
theorem rnsO_cons (nums : Bool) (x : RB') (r : List RB') : rnsO nums (x :: r) = num ((1 + rnO x r : Nat) : Int) ++ toldO nums x ++ rnsO nums (r.drop (rnO x r)) := by rw [rnsO]
def mnL (l : List Int) : Int := l.foldl (fun a b => if b < a then b else a) (l.headD 0)
def mxL (l : List Int) : Int := l.foldl (fun a b => if a < b then b else a) (l.headD 0)
def numsO (L : List RB') : List Int := L.map fun o => n64 (bz o)
def wideO (L : List RB') : Nat := width (mxL (numsO L) - mnL (numsO L)).toNat
def farO (L : List RB') : List Int := (numsO L).map fun x => x - mnL (numsO L)
def frO (L : List RB') : List Int := if L = [] then [] else num (zig (mnL (numsO L))) ++ (wideO L : Int) :: packL (wideO L) (farO L)
def idxsO (L : List RB') : List Int := L.map fun o => (idxO (unlikeO L) (bz o) : Int)
def dictO (nums : Bool) (L : List RB') : List Int := num ((unlikeO L).length : Int) ++ toldL nums (unlikeO L) ++ packL (width ((unlikeO L).length - 1)) (idxsO L)
def refBody (nums : Bool) (k : Int) (L : List RB') : Option (List Int) :=
  if k = 1 then some (toldL nums L) else if k = 2 then some (rnsO nums L) else if k = 3 then (if nums then some (frO L) else none) else if k = 4 then some (dictO nums L) else none
def refTell (nums : Bool) (k : Int) (L : List RB') : Option (List Int) := if 65535 < L.length then none else (refBody nums k L).map (k :: ·)
def pickB (a b : List Int) : List Int := if b.length < a.length then b else a
def refBest (nums : Bool) (L : List RB') : List Int :=
  if 65535 < L.length then [] else pickB (if nums then pickB (pickB (1 :: toldL nums L) (2 :: rnsO nums L)) (3 :: frO L) else pickB (1 :: toldL nums L) (2 :: rnsO nums L)) (4 :: dictO nums L)

/-! ### read -/
abbrev RS := List Int × Bool
def rnumS (s : RS) : Int × RS := match s.2 with | true => (0, s) | false => (match pnum 0 0 s.1 with | none => (0, (s.1, true)) | some (u, r) => (u, (r, false)))
def rvalS (nums : Bool) (s : RS) : RB' × RS :=
  if nums then (some (tx (zag (rnumS s).1)), (rnumS s).2)
  else if (rnumS s).2.2 = true ∨ 64 < (rnumS s).1 ∨ ((rnumS s).2.1.length : Int) < (rnumS s).1 then (none, ((rnumS s).2.1, true))
  else (some ((rnumS s).2.1.take (rnumS s).1.toNat), ((rnumS s).2.1.drop (rnumS s).1.toNat, false))
def refPl (nums : Bool) (s : RS) : Nat → List RB' × RS
  | 0 => ([], s)
  | j + 1 => if (refPl nums s j).2.2 then refPl nums s j else ((refPl nums s j).1 ++ [(rvalS nums (refPl nums s j).2).1], (rvalS nums (refPl nums s j).2).2)
def refRn (nums : Bool) (count : Nat) : Nat → List RB' → RS → Option (List RB' × RS)
  | 0, out, s => some (out, s)
  | f + 1, out, s =>
    if out.length < count ∧ s.2 = false then
      (if (rnumS s).1 = 0 ∨ ((count - out.length : Nat) : Int) < (rnumS s).1 then none
       else refRn nums count f (out ++ List.replicate (rnumS s).1.toNat (rvalS nums (rnumS s).2).1) (rvalS nums (rnumS s).2).2)
    else some (out, s)
def wr64 (x : Int) : Int := (x + 9223372036854775808) % 18446744073709551616 - 9223372036854775808
def refFr (count : Nat) (s : RS) : Option (List RB' × RS) :=
  if count = 0 then some ([], s) else
    match (rnumS s).2 with
    | (_, true) => none
    | ([], false) => none
    | (w :: r, false) => if 64 < w then none else (unpack w r count).map fun d => (d.map fun u => some (tx (wr64 (zag (rnumS s).1 + u))), (rnumS s).2)
def pickO (u : List RB') : List Int → Option (List RB')
  | [] => some []
  | i :: r => if (u.length : Int) ≤ i then none else (pickO u r).map (u.getD i.toNat none :: ·)
def wordsO (nums : Bool) (s : RS) : List RB' × RS := refPl nums (rnumS s).2 (min (rnumS s).1.toNat 65535)
def refDi (nums : Bool) (count : Nat) (s : RS) : Option (List RB' × RS) :=
  match unpack (width ((wordsO nums s).1.length - 1) : Nat) (wordsO nums s).2.1 count with
  | none => some ([], (wordsO nums s).2)
  | some l => (pickO (wordsO nums s).1 l).map fun o => (o, (wordsO nums s).2)
def refRaw (nums : Bool) (k : Int) (zs : List Int) (count : Nat) : Option (List RB' × RS) :=
  if k = 1 then some (refPl nums (zs, false) count) else if k = 2 then refRn nums count (count + 1) [] (zs, false) else if k = 3 then refFr count (zs, false) else if k = 4 then refDi nums count (zs, false) else some ([], (zs, false))
def shortO (L : List RB') : Bool := L.all fun o => decide ((bz o).length ≤ 64)
def refGet (nums : Bool) (b : List Int) (count : Int) : Option (List RB') :=
  match b with
  | [] => none
  | k :: zs =>
    if 0 ≤ count ∧ count ≤ 65535 then
      match refRaw nums k zs count.toNat with
      | none => none
      | some (out, s) => if s.2 = false ∧ refTell nums k out = some (k :: zs) ∧ out.length = count.toNat ∧ (nums = true ∨ shortO out = true) then some out else none
    else none
end Go.Den
