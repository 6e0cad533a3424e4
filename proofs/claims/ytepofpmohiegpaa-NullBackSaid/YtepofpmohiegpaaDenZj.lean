/- Den, part Zj: bits in bytes. No program in sight. -/
import Derived.Test.YtepofpmohiegpaaDenZi
namespace Go.Den
open Go
/-! ### numbers of bits, the greatest ahead -/
def val (d : Nat → Nat) : Nat → Nat
  | 0 => 0
  | k + 1 => 2 * val d k + d k
theorem val_ext {d e : Nat → Nat} : ∀ {k : Nat}, (∀ t, t < k → d t = e t) → val d k = val e k
  | 0, _ => rfl
  | k + 1, h => by rw [val, val, val_ext (k := k) fun t ht => h t (by omega), h k (by omega)]
theorem val_lt {d : Nat → Nat} (h : ∀ t, d t ≤ 1) : ∀ k, val d k < 2 ^ k
  | 0 => by simp [val]
  | k + 1 => by have := val_lt h k; have := h k; rw [val, Nat.pow_succ]; omega
theorem val_div {d : Nat → Nat} (h : ∀ t, d t ≤ 1) (k : Nat) : ∀ m, val d (k + m) / 2 ^ m = val d k
  | 0 => by simp
  | m + 1 => by
    have h1 := h (k + m)
    rw [← Nat.add_assoc, val, Nat.pow_succ, Nat.mul_comm (2 ^ m) 2, ← Nat.div_div_eq_div_mul, show (2 * val d (k + m) + d (k + m)) / 2 = val d (k + m) by omega, val_div h k m]
theorem val_bit {d : Nat → Nat} (h : ∀ t, d t ≤ 1) {k n : Nat} (hk : k < n) : val d n / 2 ^ (n - 1 - k) % 2 = d k := by
  have := val_div h (k + 1) (n - 1 - k)
  rw [show k + 1 + (n - 1 - k) = n by omega] at this
  rw [this, val]
  have := h k
  omega
theorem val_zeros {d : Nat → Nat} (k : Nat) : ∀ m, (∀ t, k ≤ t → t < k + m → d t = 0) → val d (k + m) = val d k * 2 ^ m
  | 0, _ => by simp
  | m + 1, h => by
    rw [← Nat.add_assoc, val, val_zeros k m fun t h1 h2 => h t h1 (by omega), h (k + m) (by omega) (by omega), Nat.pow_succ]
    rw [Nat.add_zero, Nat.mul_comm 2, Nat.mul_assoc]
def bitN (x i : Nat) : Nat := x / 2 ^ i % 2
theorem bitN_le (x i : Nat) : bitN x i ≤ 1 := by unfold bitN; omega
theorem val_of (x n : Nat) : ∀ k, k ≤ n → val (fun t => bitN x (n - 1 - t)) k = x / 2 ^ (n - k) % 2 ^ k
  | 0, _ => by simp [val, Nat.mod_one]
  | k + 1, hk => by
    rw [val, val_of x n k (by omega), bitN, Nat.pow_succ, Nat.mul_comm (2 ^ k) 2, Nat.mod_mul, show n - 1 - k = n - (k + 1) by omega]
    have : x / 2 ^ (n - k) = x / 2 ^ (n - (k + 1)) / 2 := by
      rw [Nat.div_div_eq_div_mul, ← Nat.pow_succ, show (n - (k + 1)).succ = n - k by omega]
    rw [this]; omega
theorem val_word (x n : Nat) : val (fun t => bitN x (n - 1 - t)) n = x % 2 ^ n := by
  rw [val_of x n n (Nat.le_refl _), Nat.sub_self, Nat.pow_zero, Nat.div_one]
/-! ### in bytes -/
def bitAt (zs : List Int) (p : Nat) : Nat := bitN (zs.getD (p / 8) 0).toNat (7 - p % 8)
theorem bitAt_le (zs : List Int) (p : Nat) : bitAt zs p ≤ 1 := bitN_le _ _
/-- the number at a place of bits -/
def rd (zs : List Int) (s k : Nat) : Nat := val (fun t => bitAt zs (s + t)) k
theorem rd_zero (zs : List Int) (s : Nat) : rd zs s 0 = 0 := rfl
theorem rd_succ (zs : List Int) (s k : Nat) : rd zs s (k + 1) = 2 * rd zs s k + bitAt zs (s + k) := rfl
theorem rd_lt (zs : List Int) (s k : Nat) : rd zs s k < 2 ^ k := val_lt (fun t => bitAt_le zs (s + t)) k
/-- the bits below a place, the others none -/
def cutF (f : Nat → Nat) (A p : Nat) : Nat := if p < A then f p else 0
def pbyte (f : Nat → Nat) (A j : Nat) : Nat := val (fun k => cutF f A (8 * j + k)) 8
def packed (f : Nat → Nat) (A L : Nat) : List Int := (List.range L).map fun j => (pbyte f A j : Int)
variable {f : Nat → Nat}
theorem cutF_le (h : ∀ p, f p ≤ 1) (A p : Nat) : cutF f A p ≤ 1 := by unfold cutF; split <;> simp [h]
theorem pbyte_lt (h : ∀ p, f p ≤ 1) (A j : Nat) : pbyte f A j < 256 := val_lt (fun t => cutF_le h A (8 * j + t)) 8
theorem packed_length (f : Nat → Nat) (A L : Nat) : (packed f A L).length = L := by simp [packed]
theorem packed_get {A L j : Nat} (h : j < L) : (packed f A L)[j]? = some (pbyte f A j : Int) := by simp [packed, h]
theorem packed_R8 (h : ∀ p, f p ≤ 1) (A L : Nat) : R8 (packed f A L) := by
  intro z hz
  obtain ⟨j, _, rfl⟩ := List.mem_map.1 hz
  have := pbyte_lt h A j
  omega
theorem packed_zero (f : Nat → Nat) (L : Nat) : packed f 0 L = List.replicate L 0 := by
  have h0 : ∀ j, pbyte f 0 j = 0 := fun j => by
    have := val_zeros (d := fun k => cutF f 0 (8 * j + k)) 0 8 (fun t _ _ => by simp [cutF])
    rw [Nat.zero_add] at this
    rw [pbyte, this]; simp [val]
  simp only [packed, h0]
  exact List.map_const' .. |>.trans (by simp)
/-- one bit more -/
theorem pbyte_step {A : Nat} : pbyte f A (A / 8) = val (fun k => cutF f A (8 * (A / 8) + k)) (A % 8) * 2 ^ (8 - A % 8) ∧ pbyte f (A + 1) (A / 8) = pbyte f A (A / 8) + f A * 2 ^ (7 - A % 8) := by
  have hr : A % 8 < 8 := Nat.mod_lt _ (by decide)
  have hA : 8 * (A / 8) + A % 8 = A := Nat.div_add_mod A 8
  have e1 : pbyte f A (A / 8) = val (fun k => cutF f A (8 * (A / 8) + k)) (A % 8) * 2 ^ (8 - A % 8) := by
    have := val_zeros (d := fun k => cutF f A (8 * (A / 8) + k)) (A % 8) (8 - A % 8) (fun t h1 h2 => if_neg (by omega))
    rw [show A % 8 + (8 - A % 8) = 8 by omega] at this
    exact this
  refine ⟨e1, ?_⟩
  have e2 : pbyte f (A + 1) (A / 8) = val (fun k => cutF f (A + 1) (8 * (A / 8) + k)) (A % 8 + 1) * 2 ^ (7 - A % 8) := by
    have := val_zeros (d := fun k => cutF f (A + 1) (8 * (A / 8) + k)) (A % 8 + 1) (7 - A % 8) (fun t h1 h2 => if_neg (by omega))
    rw [show A % 8 + 1 + (7 - A % 8) = 8 by omega] at this
    exact this
  rw [e1, e2, val]
  have e3 : val (fun k => cutF f (A + 1) (8 * (A / 8) + k)) (A % 8) = val (fun k => cutF f A (8 * (A / 8) + k)) (A % 8) := val_ext fun t ht => by
    simp only [cutF]; rw [if_pos (by omega), if_pos (by omega)]
  have e4 : cutF f (A + 1) (8 * (A / 8) + A % 8) = f A := by rw [hA]; simp [cutF]
  rw [e3, e4, Nat.add_mul, show 8 - A % 8 = 7 - A % 8 + 1 by omega, Nat.pow_succ, Nat.mul_comm 2, Nat.mul_assoc, Nat.mul_comm 2]
theorem pbyte_other {A j : Nat} (h : j ≠ A / 8) : pbyte f (A + 1) j = pbyte f A j := by
  refine val_ext fun t ht => ?_
  simp only [cutF]
  have : (8 * j + t < A + 1) = (8 * j + t < A) := by
    simp only [eq_iff_iff]; constructor
    · intro h1; refine Nat.lt_of_le_of_ne (by omega) fun h2 => h ?_; omega
    · intro h1; omega
  simp only [this]
theorem packed_set {A L : Nat} (hA : A / 8 < L) : (packed f A L).set (A / 8) ((pbyte f A (A / 8) : Nat) + (f A * 2 ^ (7 - A % 8) : Nat) : Int) = packed f (A + 1) L := by
  apply List.ext_getElem?
  intro j
  rw [List.getElem?_set]
  by_cases hj : j < L
  · rw [packed_get hj, packed_length]
    split
    · rename_i h; subst h; rw [packed_get hA, pbyte_step.2]; push_cast; rfl
    · rename_i h; rw [packed_get hj, pbyte_other (fun he => h he.symm)]
  · have h1 : (packed f A L)[j]? = none := List.getElem?_eq_none (by rw [packed_length]; omega)
    have h2 : (packed f (A + 1) L)[j]? = none := List.getElem?_eq_none (by rw [packed_length]; omega)
    rw [h1, h2, if_neg (by omega)]
theorem bor8 {a b i : Nat} (hb : b < 2 ^ i) (h : 2 ^ i * a + b < 256) : bor 8 ((2 ^ i * a : Nat) : Int) (b : Int) = ((2 ^ i * a + b : Nat) : Int) := by
  unfold bor
  rw [BitVec.toNat_or, BitVec.toNat_ofInt, BitVec.toNat_ofInt]
  have e1 : (((2 ^ i * a : Nat) : Int) % ((2 ^ 8 : Nat) : Int)).toNat = 2 ^ i * a := by omega
  have e2 : ((b : Int) % ((2 ^ 8 : Nat) : Int)).toNat = b := by omega
  rw [e1, e2, ← Nat.two_pow_add_eq_or_of_lt hb a]
theorem bor_pbyte (h : ∀ p, f p ≤ 1) (A : Nat) : bor 8 (pbyte f A (A / 8) : Nat) ((f A * 2 ^ (7 - A % 8) : Nat) : Int) = (pbyte f A (A / 8) : Nat) + ((f A * 2 ^ (7 - A % 8) : Nat) : Int) := by
  have hr : A % 8 < 8 := Nat.mod_lt _ (by decide)
  have h1 := pbyte_step (f := f) (A := A)
  have h2 := pbyte_lt h (A + 1) (A / 8)
  rw [h1.2, h1.1] at h2
  rw [h1.1, Nat.mul_comm (val _ _)]
  rw [Nat.mul_comm (val _ _)] at h2
  rw [bor8 (i := 8 - A % 8) _ h2]
  · push_cast; rfl
  · have := h A
    rw [show 8 - A % 8 = 7 - A % 8 + 1 by omega, Nat.pow_succ]
    have h3 : f A * 2 ^ (7 - A % 8) ≤ 1 * 2 ^ (7 - A % 8) := Nat.mul_le_mul_right _ this
    have h4 : 0 < 2 ^ (7 - A % 8) := Nat.two_pow_pos _
    omega
theorem bitAt_packed (h : ∀ p, f p ≤ 1) {A L p : Nat} (hp : p / 8 < L) : bitAt (packed f A L) p = cutF f A p := by
  unfold bitAt
  rw [List.getD_eq_getElem?_getD, packed_get hp, Option.getD_some, Int.toNat_natCast]
  have hr : p % 8 < 8 := Nat.mod_lt _ (by decide)
  have := val_bit (d := fun k => cutF f A (8 * (p / 8) + k)) (fun t => cutF_le h A _) hr
  rw [show 8 - 1 - p % 8 = 7 - p % 8 by omega, Nat.div_add_mod] at this
  exact this
/-! ### how wide -/
def width (u : Nat) : Nat := if u = 0 then 0 else Nat.log2 u + 1
theorem width_shift {u : Nat} (k : Nat) (h : 2 ^ k ≤ u) : width u = width (u / 2 ^ k) + k := by
  have hp := Nat.two_pow_pos k
  have h0 : u ≠ 0 := by omega
  have h1 : u / 2 ^ k ≠ 0 := by
    have := Nat.div_pos h hp; omega
  simp only [width, if_neg h0, if_neg h1]
  have h2 : k ≤ Nat.log2 u := (Nat.le_log2 h0).2 h
  have h3 : Nat.log2 (u / 2 ^ k) = Nat.log2 u - k := by
    apply Nat.le_antisymm
    · have h4 : u / 2 ^ k < 2 ^ (Nat.log2 u - k + 1) := by
        rw [Nat.div_lt_iff_lt_mul hp, ← Nat.pow_add, show Nat.log2 u - k + 1 + k = Nat.log2 u + 1 by omega]
        exact (Nat.log2_lt h0).1 (Nat.lt_succ_self _)
      have := (Nat.log2_lt h1).2 h4
      omega
    · refine (Nat.le_log2 h1).2 ?_
      rw [Nat.le_div_iff_mul_le hp, ← Nat.pow_add, show Nat.log2 u - k + k = Nat.log2 u by omega]
      exact (Nat.le_log2 h0).1 (Nat.le_refl _)
  omega
theorem width_le {u n : Nat} (h : u < 2 ^ n) : width u ≤ n := by
  unfold width
  split
  · omega
  · rename_i h0; exact (Nat.log2_lt h0).2 h
theorem width_lt (u : Nat) : u < 2 ^ width u := by
  unfold width
  split
  · rename_i h; subst h; decide
  · rename_i h; exact (Nat.log2_lt h).1 (Nat.lt_succ_self _)
theorem width_ge {u : Nat} (h : u ≠ 0) : 2 ^ (width u - 1) ≤ u := by
  unfold width
  rw [if_neg h]
  exact (Nat.le_log2 h).1 (by omega)
end Go.Den
namespace Go.Den
open Go
def heldN (n : Int) : Nat := if n < 0 then 0 else if 64 < n then 64 else n.toNat
theorem heldN_le (n : Int) : heldN n ≤ 64 := by unfold heldN; split <;> (try split) <;> omega
def bitsF (n : Nat) (l : List Int) (p : Nat) : Nat := bitN (l.getD (p / n) 0).toNat (n - 1 - p % n)
theorem bitsF_le (n : Nat) (l : List Int) (p : Nat) : bitsF n l p ≤ 1 := bitN_le _ _
def packL (n : Nat) (l : List Int) : List Int := packed (bitsF n l) (n * l.length) ((n * l.length + 7) / 8)
theorem packL_length (n : Nat) (l : List Int) : (packL n l).length = (n * l.length + 7) / 8 := packed_length ..
theorem packL_R8 (n : Nat) (l : List Int) : R8 (packL n l) := packed_R8 (bitsF_le n l) _ _
theorem rd_packL {n i : Nat} {l : List Int} (hi : i < l.length) (hn : 0 < n) : rd (packL n l) (n * i) n = (l.getD i 0).toNat % 2 ^ n := by
  rw [← val_word]
  refine val_ext fun t ht => ?_
  have h1 : n * i + t < n * l.length := by
    have : n * (i + 1) ≤ n * l.length := Nat.mul_le_mul_left n hi
    rw [Nat.mul_succ] at this; omega
  rw [packL, bitAt_packed (bitsF_le n l) (by omega), cutF, if_pos h1, bitsF, Nat.mul_add_div hn, Nat.div_eq_of_lt ht, Nat.mul_add_mod, Nat.mod_eq_of_lt ht]
  rfl
theorem tdiv_nat (a b : Nat) : ((a : Int).tdiv (b : Int)) = ((a / b : Nat) : Int) := rfl
theorem tmod_nat (a b : Nat) : ((a : Int).tmod (b : Int)) = ((a % b : Nat) : Int) := rfl
theorem tdiv8 (a : Nat) : ((a : Int).tdiv 8) = ((a / 8 : Nat) : Int) := rfl
theorem tmod8 (a : Nat) : ((a : Int).tmod 8) = ((a % 8 : Nat) : Int) := rfl
theorem fdiv_nat (a b : Nat) : ((a : Int).fdiv (b : Int)) = ((a / b : Nat) : Int) := by
  rw [Int.fdiv_eq_ediv_of_nonneg _ (by omega)]; rfl
theorem fdiv_pow (a k : Nat) : ((a : Int).fdiv (2 ^ k)) = ((a / 2 ^ k : Nat) : Int) := by
  rw [show ((2 : Int) ^ k) = ((2 ^ k : Nat) : Int) by push_cast; rfl, fdiv_nat]
end Go.Den
namespace Go.Den
open Go
/-! ### all numbers of bytes -/
def unpP (m : Nat) (zs : List Int) (c i : Nat) : List Int := (List.range c).map fun j => if j < i then (rd zs (m * j) m : Int) else 0
def unpL (m : Nat) (zs : List Int) (c : Nat) : List Int := (List.range c).map fun j => (rd zs (m * j) m : Int)
theorem unpP_zero (m : Nat) (zs : List Int) (c : Nat) : unpP m zs c 0 = List.replicate c 0 := by
  simp only [unpP, Nat.not_lt_zero, if_false]
  exact List.map_const' .. |>.trans (by simp)
theorem unpP_end (m : Nat) (zs : List Int) (c : Nat) : unpP m zs c c = unpL m zs c := by
  refine List.map_congr_left fun j hj => ?_
  rw [if_pos (List.mem_range.1 hj)]
theorem unpP_length (m : Nat) (zs : List Int) (c i : Nat) : (unpP m zs c i).length = c := by simp [unpP]
theorem unpL_length (m : Nat) (zs : List Int) (c : Nat) : (unpL m zs c).length = c := by simp [unpL]
theorem unpP_get {m : Nat} {zs : List Int} {c i j : Nat} (h : j < c) : (unpP m zs c i)[j]? = some (if j < i then (rd zs (m * j) m : Int) else 0) := by simp [unpP, h]
theorem unpP_set {m : Nat} {zs : List Int} {c i : Nat} (h : i < c) : (unpP m zs c i).set i (rd zs (m * i) m : Int) = unpP m zs c (i + 1) := by
  apply List.ext_getElem?
  intro j
  rw [List.getElem?_set]
  by_cases hj : j < c
  · rw [unpP_get hj, unpP_get hj, unpP_length]
    split
    · rename_i h; subst h; rw [if_pos (by omega)]
    · rename_i hne
      congr 1
      by_cases h1 : j < i
      · rw [if_pos h1, if_pos (by omega)]
      · rw [if_neg h1, if_neg (by omega)]
  · rw [List.getElem?_eq_none (l := unpP m zs c (i + 1)) (by rw [unpP_length]; omega), List.getElem?_eq_none (l := unpP m zs c i) (by rw [unpP_length]; omega), if_neg (by omega)]
theorem unpL_R64 {m : Nat} (hm : m ≤ 64) (zs : List Int) (c : Nat) : R64 (unpL m zs c) := by
  intro z hz
  obtain ⟨j, _, rfl⟩ := List.mem_map.1 hz
  have h1 := rd_lt zs (m * j) m
  have h2 : 2 ^ m ≤ 2 ^ 64 := Nat.pow_le_pow_right (by decide) hm
  omega
theorem toU8_inj : ∀ {a b : List Int}, R8 a → R8 b → a.map toU8 = b.map toU8 → a = b
  | [], [], _, _, _ => rfl
  | [], _ :: _, _, _, h => by cases h
  | _ :: _, [], _, _, h => by cases h
  | x :: a, y :: b, ha, hb, h => by
    simp only [List.map_cons, List.cons.injEq] at h
    have hx := ha x List.mem_cons_self
    have hy := hb y List.mem_cons_self
    have h1 : x = y := by
      have := congrArg UInt8.toNat h.1
      simp only [toU8, UInt8.toNat_ofNat'] at this
      omega
    rw [h1, toU8_inj (fun z hz => ha z (List.mem_cons_of_mem _ hz)) (fun z hz => hb z (List.mem_cons_of_mem _ hz)) h.2]
theorem toU8_beq {a b : List Int} (ha : R8 a) (hb : R8 b) : (a.map toU8 == b.map toU8) = decide (a = b) := by
  by_cases h : a = b
  · subst h; simp
  · rw [decide_eq_false h]
    exact beq_eq_false_iff_ne.2 fun he => h (toU8_inj ha hb he)
/-- packed, and read again -/
theorem unpL_packL {m : Nat} {l : List Int} (h64 : R64 l) (hm : 0 < m) : unpL m (packL m l) l.length = l.map fun x => x % ((2 ^ m : Nat) : Int) := by
  apply List.ext_getElem?
  intro j
  simp only [unpL, List.getElem?_map]
  by_cases hj : j < l.length
  · rw [List.getElem?_range hj, Option.map_some, rd_packL hj hm, List.getElem?_eq_getElem hj, Option.map_some, List.getD_eq_getElem?_getD, List.getElem?_eq_getElem hj, Option.getD_some]
    have := h64 _ (List.getElem_mem hj)
    obtain ⟨n, hn⟩ := Int.eq_ofNat_of_zero_le this.1
    rw [hn]; rfl
  · rw [List.getElem?_eq_none (l := List.range l.length) (by simp; omega), List.getElem?_eq_none (l := l) (by omega)]
    rfl
theorem bitN_mod {x m i : Nat} (h : i < m) : bitN (x % 2 ^ m) i = bitN x i := by
  unfold bitN
  rw [show m = i + (m - i) by omega, Nat.pow_add, Nat.mod_mul_right_div_self]
  rw [show m - i = (m - i - 1) + 1 by omega, Nat.pow_succ, Nat.mul_comm (2 ^ (m - i - 1)) 2, Nat.mod_mul_right_mod]
theorem packed_ext {f g : Nat → Nat} {A L : Nat} (h : ∀ p, p < A → f p = g p) : packed f A L = packed g A L := by
  refine List.map_congr_left fun j _ => congrArg (fun x : Nat => (x : Int)) (val_ext fun t _ => ?_)
  simp only [cutF]
  split
  · rename_i h1; exact h _ h1
  · rfl
theorem packL_mod {m : Nat} {l : List Int} (h64 : R64 l) : packL m (l.map fun x => x % ((2 ^ m : Nat) : Int)) = packL m l := by
  unfold packL
  rw [List.length_map]
  refine packed_ext fun p hp => ?_
  unfold bitsF
  by_cases hm : m = 0
  · subst hm; simp at hp
  have hm : 0 < m := by omega
  have hj : p / m < l.length := Nat.div_lt_of_lt_mul hp
  rw [List.getD_eq_getElem?_getD, List.getD_eq_getElem?_getD, List.getElem?_map, List.getElem?_eq_getElem hj, Option.map_some, Option.getD_some, Option.getD_some]
  have := h64 _ (List.getElem_mem hj)
  obtain ⟨n, hn⟩ := Int.eq_ofNat_of_zero_le this.1
  have hpm := Nat.mod_lt p hm
  rw [hn, ← Int.natCast_emod, Int.toNat_natCast, Int.toNat_natCast, bitN_mod (by omega)]
end Go.Den
namespace Go.Den
open Go
def unpack (n : Int) (zs : List Int) (c : Int) : Option (List Int) :=
  if c < 0 ∨ 65535 < c ∨ zs.length ≠ (heldN n * c.toNat + 7) / 8 then none
  else if packL (heldN n) (unpL (heldN n) zs c.toNat) = zs then some (unpL (heldN n) zs c.toNat) else none
def atB (n : Int) (zs : List Int) (i : Int) : Option Nat :=
  if i < 0 ∨ (65535 ≤ i ∧ heldN n = 0) then none
  else if heldN n = 0 then some 0
  else if (zs.length : Int) * 8 ≤ i ∨ ((zs.length : Int) * 8 < heldN n * (i + 1)) then none else some (rd zs (heldN n * i.toNat) (heldN n))
def len8 : List UInt8 := [0, 1, 2, 2, 3, 3, 3, 3, 4, 4, 4, 4, 4, 4, 4, 4] ++ List.replicate 16 5 ++ List.replicate 32 6 ++ List.replicate 64 7 ++ List.replicate 128 8
theorem len8_get {u : Nat} (h : u < 256) : len8[u]? = some (UInt8.ofNat (width u)) := by
  have : ∀ u : Fin 256, len8[u.val]? = some (UInt8.ofNat (width u.val)) := by decide +kernel
  exact this ⟨u, h⟩
end Go.Den
namespace Go.Den
open Go
theorem heldN_nat {m : Nat} (h : m ≤ 64) : heldN (m : Int) = m := by unfold heldN; rw [if_neg (by omega), if_neg (by omega)]; omega
theorem width8 {u : Nat} (h : u < 256) : width u ≤ 8 := width_le (n := 8) h
end Go.Den
namespace Go.Den
open Go
theorem width_pos {u : Nat} (h : u ≠ 0) : 0 < width u := by unfold width; rw [if_neg h]; omega
theorem width_div {u : Nat} : u / 2 ^ width u = 0 := Nat.div_eq_of_lt (width_lt u)
theorem width_div1 {u : Nat} (h : u ≠ 0) : u / 2 ^ (width u - 1) = 1 := by
  have h1 := width_lt u
  have h2 := width_ge h
  have h3 := width_pos h
  refine Nat.div_eq_of_lt_le (by omega) ?_
  rw [show width u = width u - 1 + 1 by omega, Nat.pow_succ] at h1
  omega
theorem atB_pack {m : Nat} {l : List Int} {i : Nat} (hm : m ≤ 64) (hi : i < l.length) (h65 : i < 65535) : atB m (packL m l) i = some ((l.getD i 0).toNat % 2 ^ m) := by
  unfold atB
  rw [heldN_nat hm]
  by_cases h0 : m = 0
  · subst h0
    rw [if_neg (by omega), if_pos rfl, Nat.pow_zero, Nat.mod_one]
  · have h1 : m * (i + 1) ≤ m * l.length := Nat.mul_le_mul_left m hi
    have h2 : 1 * (i + 1) ≤ m * (i + 1) := Nat.mul_le_mul_right _ (by omega)
    rw [if_neg (by omega), if_neg h0, packL_length, if_neg, Int.toNat_natCast, rd_packL hi (by omega)]
    rw [show (m : Int) * ((i : Int) + 1) = ((m * (i + 1) : Nat) : Int) by push_cast; rfl]
    omega
end Go.Den
namespace Go.Den
open Go
theorem unpL_zero (zs : List Int) (c : Nat) : unpL 0 zs c = List.replicate c 0 := by
  simp only [unpL, rd_zero, Int.natCast_zero]
  exact List.map_const' .. |>.trans (by simp)
theorem unpL_mod {m : Nat} {l : List Int} (h64 : R64 l) : unpL m (packL m l) l.length = l.map fun x => x % ((2 ^ m : Nat) : Int) := by
  by_cases hm : m = 0
  · subst hm
    rw [unpL_zero]
    simp only [Nat.pow_zero, Int.natCast_one, Int.emod_one]
    exact (List.map_const' ..).symm
  · exact unpL_packL h64 (by omega)
theorem unpack_packL {m : Nat} {l : List Int} (h64 : R64 l) (hm : m ≤ 64) (hl : l.length ≤ 65535) : unpack m (packL m l) l.length = some (l.map fun x => x % ((2 ^ m : Nat) : Int)) := by
  unfold unpack
  rw [heldN_nat hm, Int.toNat_natCast, if_neg (by rw [packL_length]; omega), unpL_mod h64, packL_mod h64, if_pos rfl]
theorem band_mask {a : Int} (h0 : 0 ≤ a) (h1 : a < 18446744073709551616) (j : Nat) (hj : j ≤ 64) : band 64 a ((2 ^ j - 1 : Nat) : Int) = a % ((2 ^ j : Nat) : Int) := by
  obtain ⟨n, rfl⟩ := Int.eq_ofNat_of_zero_le h0
  unfold band
  have hp : 2 ^ j ≤ 2 ^ 64 := Nat.pow_le_pow_right (by decide) hj
  have hq := Nat.two_pow_pos j
  rw [BitVec.toNat_and, BitVec.toNat_ofInt, BitVec.toNat_ofInt]
  have e1 : (((2 ^ j - 1 : Nat) : Int) % ((2 ^ 64 : Nat) : Int)).toNat = 2 ^ j - 1 := by omega
  have e2 : ((n : Int) % ((2 ^ 64 : Nat) : Int)).toNat = n := by omega
  rw [e1, e2, Nat.and_two_pow_sub_one_eq_mod]
  rfl
end Go.Den
namespace Go.Den
open Go
def maxW (l : List Int) : Nat := l.foldl (fun n x => max n (width x.toNat)) 0
theorem maxW_snoc (l : List Int) (x : Int) : maxW (l ++ [x]) = max (maxW l) (width x.toNat) := by simp [maxW]
theorem foldl_ge (l : List Int) : ∀ n, n ≤ l.foldl (fun n x => max n (width x.toNat)) n := by
  induction l with
  | nil => intro n; exact Nat.le_refl _
  | cons y r ih => intro n; exact Nat.le_trans (Nat.le_max_left _ _) (ih _)
theorem maxW_ge {l : List Int} {x : Int} (h : x ∈ l) : width x.toNat ≤ maxW l := by
  have key : ∀ (l : List Int) (n : Nat), x ∈ l → width x.toNat ≤ l.foldl (fun n x => max n (width x.toNat)) n := by
    intro l
    induction l with
    | nil => intro n h; cases h
    | cons y r ih =>
      intro n h
      rcases List.mem_cons.1 h with rfl | h
      · exact Nat.le_trans (Nat.le_max_right _ _) (foldl_ge r _)
      · exact ih _ h
  exact key l 0 h
theorem maxW_le {l : List Int} (h64 : R64 l) : maxW l ≤ 64 := by
  have key : ∀ (l : List Int) (n : Nat), R64 l → n ≤ 64 → l.foldl (fun n x => max n (width x.toNat)) n ≤ 64 := by
    intro l
    induction l with
    | nil => intro n _ h; exact h
    | cons y r ih =>
      intro n h hn
      refine ih _ (fun z hz => h z (List.mem_cons_of_mem _ hz)) ?_
      have := h y List.mem_cons_self
      have := width_le (u := y.toNat) (n := 64) (by omega)
      show max n (width y.toNat) ≤ 64
      omega
  exact key l 0 h64 (by omega)
theorem mod_fits {l : List Int} (h64 : R64 l) {m : Nat} (hm : maxW l ≤ m) : (l.map fun x => x % ((2 ^ m : Nat) : Int)) = l := by
  conv => rhs; rw [← List.map_id l]
  refine List.map_congr_left fun x hx => ?_
  obtain ⟨n, rfl⟩ := Int.eq_ofNat_of_zero_le (h64 x hx).1
  have h1 := maxW_ge hx
  have h2 := width_lt ((n : Int).toNat)
  rw [Int.toNat_natCast] at h1 h2
  have h3 : 2 ^ width n ≤ 2 ^ m := Nat.pow_le_pow_right (by decide) (by omega)
  rw [← Int.natCast_emod, Nat.mod_eq_of_lt (by omega)]
  rfl
end Go.Den
namespace Go.Den
open Go
def bitL (f : Nat → Nat) (A : Nat) : List Int := (List.range A).map fun p => (f p : Int)
theorem bitL_length (f : Nat → Nat) (A : Nat) : (bitL f A).length = A := by simp [bitL]
theorem bitL_get {f : Nat → Nat} {A p : Nat} (h : p < A) : (bitL f A)[p]? = some (f p : Int) := by simp [bitL, h]
theorem bitL_succ (f : Nat → Nat) (A : Nat) : bitL f (A + 1) = bitL f A ++ [(f A : Int)] := by simp [bitL, List.range_succ]
theorem unpL_take {m : Nat} {zs : List Int} {c i : Nat} (h : i < c) : (unpL m zs c).take (i + 1) = (unpL m zs c).take i ++ [(rd zs (m * i) m : Int)] := by
  rw [List.take_add_one]
  congr 1
  simp [unpL, h]
theorem width_div_ne {u n : Nat} : u / 2 ^ n ≠ 0 ↔ n < width u := by
  constructor
  · intro h
    refine Nat.lt_of_not_le fun hle => h (Nat.div_eq_of_lt (Nat.lt_of_lt_of_le (width_lt u) (Nat.pow_le_pow_right (by decide) hle)))
  · intro h h0
    have h1 : u ≠ 0 := fun he => by subst he; simp [width] at h
    have h2 : 2 ^ n ≤ u := Nat.le_trans (Nat.pow_le_pow_right (by decide) (by omega)) (width_ge h1)
    have := Nat.div_pos h2 (Nat.two_pow_pos n)
    omega
end Go.Den
