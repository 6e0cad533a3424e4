/- Den, part Ze: numbers' bits, in the words of the walk. No program in sight. -/
import Derived.Test.YtepofpmohiegpaaDenZd
import Derived.Below
namespace Go.Den
open Go
theorem bv_zero : BitVec.ofInt 64 0 = 0#64 := by decide
theorem bv_ones : BitVec.ofInt 64 18446744073709551615 = BitVec.allOnes 64 := by decide
theorem bv_m1 : BitVec.ofInt 64 (-1) = BitVec.allOnes 64 := by decide
theorem and_one (u : Int) : band 64 u 1 = u % 2 := by
  unfold band
  rw [BitVec.toNat_and, show (BitVec.ofInt 64 1).toNat = 1 from by decide, Nat.and_one_is_mod, BitVec.toNat_ofInt]
  omega
/-- what a number is, without a sign -/
def zig (n : Int) : Int := if n < 0 then -2 * n - 1 else 2 * n
def zag (u : Int) : Int := if u % 2 = 1 then -(u / 2) - 1 else u / 2
theorem zig_law {n : Int} (h0 : -9223372036854775808 ≤ n) (h1 : n < 9223372036854775808) :
    bxor 64 (n % 18446744073709551616 * 2 % 18446744073709551616) (n.fdiv 9223372036854775808 % 18446744073709551616) = zig n := by
  have hf : n.fdiv 9223372036854775808 = if n < 0 then -1 else 0 := by
    rw [Int.fdiv_eq_ediv_of_nonneg _ (by decide)]; split <;> omega
  rw [hf]
  unfold zig bxor
  split
  · rw [show ((-1 : Int) % 18446744073709551616) = 18446744073709551615 from by decide, bv_ones, BitVec.xor_allOnes, BitVec.toNat_not, BitVec.toNat_ofInt]
    omega
  · rw [show ((0 : Int) % 18446744073709551616) = 0 from by decide, bv_zero, BitVec.xor_zero, BitVec.toNat_ofInt]
    omega
theorem zag_law {u : Int} (h0 : 0 ≤ u) (h1 : u < 18446744073709551616) :
    sxor ((u.fdiv 2 + 9223372036854775808) % 18446744073709551616 - 9223372036854775808) ((0 - ((u % 2 + 9223372036854775808) % 18446744073709551616 - 9223372036854775808) + 9223372036854775808) % 18446744073709551616 - 9223372036854775808) = zag u := by
  rw [Int.fdiv_eq_ediv_of_nonneg _ (by decide)]
  unfold zag sxor
  rcases (show u % 2 = 0 ∨ u % 2 = 1 from by omega) with h | h
  · rw [h, show ((0 - ((0 + 9223372036854775808) % 18446744073709551616 - 9223372036854775808) + 9223372036854775808) % 18446744073709551616 - 9223372036854775808 : Int) = 0 from by decide, bv_zero, BitVec.xor_zero, if_neg (by decide), BitVec.toInt_ofInt, Int.bmod_def]
    omega
  · rw [h, show ((0 - ((1 + 9223372036854775808) % 18446744073709551616 - 9223372036854775808) + 9223372036854775808) % 18446744073709551616 - 9223372036854775808 : Int) = -1 from by decide, bv_m1, BitVec.xor_allOnes, BitVec.toInt_not, BitVec.toNat_ofInt, if_pos rfl, Int.bmod_def]
    omega
theorem zag_zig (n : Int) : zag (zig n) = n := by unfold zag zig; split <;> split <;> omega
theorem zig_odd (n : Int) : zig n % 2 = if n < 0 then 1 else 0 := by unfold zig; split <;> omega
theorem zig_lo (n : Int) : 0 ≤ zig n := by unfold zig; split <;> omega
theorem zig_hi {n : Int} (h0 : -9223372036854775808 ≤ n) (h1 : n < 9223372036854775808) : zig n < 18446744073709551616 := by unfold zig; split <;> omega
end Go.Den
namespace Go.Den
open Go Go.Proofs Go.RowKit
theorem wf_i64 {n : Int} (h : (Lit.int .i64 n).wf = true) : -9223372036854775808 ≤ n ∧ n < 9223372036854775808 := by
  simp [Lit.wf, IntKind.min, IntKind.max, IntKind.bits, IntKind.signed] at h; omega
theorem wf_u64 {n : Int} (h : (Lit.int .u64 n).wf = true) : 0 ≤ n ∧ n < 18446744073709551616 := by
  simp [Lit.wf, IntKind.min, IntKind.max, IntKind.bits, IntKind.signed] at h; omega
theorem wf_u8 {n : Int} (h : (Lit.int .u8 n).wf = true) : 0 ≤ n ∧ n < 256 := by
  simp [Lit.wf, IntKind.min, IntKind.max, IntKind.bits, IntKind.signed] at h; omega
/-- A law that comes to true. -/
theorem law_dw {E : Env} (hE : EnvOK E) {f : FuncId} {args : List PV} {w : World} {vs : Array Value} (h : dw E f args [] = some (.bool true, [])) (ha : ArgsOk w (fun k => k < w.heap.size) (Gl w (fun k => k < w.heap.size) []) vs args) :
    Calls E.P f vs w fun e w' => e = .returned (.bool true) ∧ Below w.heap.size w w' := by
  obtain ⟨k, hk⟩ := of_dw h
  exact law_calls hE hk ha
theorem args_nil {w : World} {ok G} : ArgsOk w ok G (List.toArray []) [] := ⟨rfl, fun j v p hv _ => by simp at hv⟩
theorem args_cons {w : World} {ok G} {v : Value} {p : PV} {vs : List Value} {ps : List PV} (h : RepS w ok G v p) (hr : ArgsOk w ok G vs.toArray ps) : ArgsOk w ok G (v :: vs).toArray (p :: ps) := by
  refine ⟨by simpa using hr.1, fun j v' p' hv hp => ?_⟩
  cases j with
  | zero => simp at hv hp; subst hv; subst hp; exact h
  | succ j => exact hr.2 j v' p' (by simpa using hv) (by simpa using hp)
end Go.Den
namespace Go.Den
open Go
/-! ### a number's bytes, seven bits each -/
def numN (u : Nat) : List Int := if u < 128 then [(u : Int)] else ((u % 128 + 128 : Nat) : Int) :: numN (u / 128)
termination_by u
decreasing_by omega
def num (u : Int) : List Int := numN u.toNat
theorem num_lt {u : Int} (h0 : 0 ≤ u) (h : u < 128) : num u = [u] := by
  unfold num
  rw [numN, if_pos (by omega), Int.toNat_of_nonneg h0]
theorem num_ge {u : Int} (h : 128 ≤ u) : num u = (u % 128 + 128) :: num (u / 128) := by
  unfold num
  rw [numN, if_neg (by omega)]
  congr 1
  · omega
  · congr 1; omega
theorem num_len (k : Nat) : ∀ {u : Int}, 0 ≤ u → u < 128 ^ (k + 1) → (num u).length ≤ k + 1 := by
  induction k with
  | zero => intro u h0 h; rw [num_lt h0 (by simpa using h)]; simp
  | succ k ih =>
    intro u h0 h
    by_cases hu : u < 128
    · rw [num_lt h0 hu]; simp
    · rw [num_ge (by omega), List.length_cons]
      have := ih (u := u / 128) (by omega) (by rw [Int.pow_succ] at h; omega)
      omega
theorem num_len10 {u : Int} (h0 : 0 ≤ u) (h : u < 18446744073709551616) : (num u).length ≤ 10 := num_len 9 h0 (Int.lt_of_lt_of_le h (by decide))
theorem num_pos (u : Int) : 1 ≤ (num u).length := by
  unfold num
  rw [numN]
  split <;> simp
theorem bor128 {u : Int} (_h : 0 ≤ u) : bor 8 (u % 256) 128 = u % 128 + 128 := by
  have key : ∀ x : BitVec 8, ((x ||| 128#8).toNat : Int) = x.toNat % 128 + 128 := by decide
  unfold bor
  rw [show BitVec.ofInt 8 128 = 128#8 from by decide, key, BitVec.toNat_ofInt]
  omega
end Go.Den
namespace Go.Den
open Go
def R8 (zs : List Int) : Prop := ∀ z ∈ zs, 0 ≤ z ∧ z < 256
theorem band127 {c : Int} (_h0 : 0 ≤ c) (_h1 : c < 256) : band 8 c 127 = c % 128 := by
  have key : ∀ x : BitVec 8, ((x &&& 127#8).toNat : Int) = x.toNat % 128 := by decide
  unfold band
  rw [show BitVec.ofInt 8 127 = 127#8 from by decide, key, BitVec.toNat_ofInt]
  omega
theorem bor_add {a b : Nat} (i : Nat) (hb : b < 2 ^ i) (h : 2 ^ i * a + b < 18446744073709551616) : bor 64 (b : Int) ((2 ^ i * a : Nat) : Int) = ((2 ^ i * a + b : Nat) : Int) := by
  unfold bor
  rw [BitVec.toNat_or, BitVec.toNat_ofInt, BitVec.toNat_ofInt]
  have e1 : ((b : Int) % ((2 ^ 64 : Nat) : Int)).toNat = b := by omega
  have e2 : (((2 ^ i * a : Nat) : Int) % ((2 ^ 64 : Nat) : Int)).toNat = 2 ^ i * a := by omega
  rw [e1, e2, Nat.or_comm, ← Nat.two_pow_add_eq_or_of_lt hb a]
theorem bor_shl {u c : Int} {i : Nat} (h0 : 0 ≤ u) (hu : u < 128 ^ i) (hc0 : 0 ≤ c) (hc : c < 128) (hi : i ≤ 9) (h9 : i = 9 → c ≤ 1) : bor 64 u (c * 2 ^ (7 * i) % 18446744073709551616) = u + c * 128 ^ i := by
  obtain ⟨b, rfl⟩ := Int.eq_ofNat_of_zero_le h0
  obtain ⟨a, rfl⟩ := Int.eq_ofNat_of_zero_le hc0
  have hp : ((128 : Int) ^ i) = ((2 ^ (7 * i) : Nat) : Int) := by rw [Nat.pow_mul]; push_cast; rfl
  have hlt : 2 ^ (7 * i) * a + b < 18446744073709551616 := by
    rw [hp] at hu
    have : b < 2 ^ (7 * i) := by omega
    have h3 : 2 ^ (7 * i) * a + b < 2 ^ (7 * i) * (a + 1) := by rw [Nat.mul_succ]; omega
    refine Nat.lt_of_lt_of_le h3 ?_
    by_cases h : i = 9
    · subst h
      have : a + 1 ≤ 2 := by have := h9 rfl; omega
      exact Nat.le_trans (Nat.mul_le_mul_left _ this) (by decide)
    · have h4 : a + 1 ≤ 128 := by omega
      have h5 : 7 * i ≤ 56 := by omega
      exact Nat.le_trans (Nat.mul_le_mul (Nat.pow_le_pow_right (by decide) h5) h4) (by decide)
  have e : ((a : Int) * 2 ^ (7 * i) % 18446744073709551616) = ((2 ^ (7 * i) * a : Nat) : Int) := by
    rw [Int.emod_eq_of_lt]
    · push_cast; rw [Int.mul_comm]
    · exact Int.mul_nonneg (by omega) (Int.pow_nonneg (by decide))
    · have : ((a : Int) * 2 ^ (7 * i)) = ((2 ^ (7 * i) * a : Nat) : Int) := by push_cast; rw [Int.mul_comm]
      rw [this]; omega
  rw [e, bor_add (7 * i) (by rw [hp] at hu; omega) hlt, hp]
  push_cast
  rw [Int.mul_comm (2 ^ (7 * i) : Int), Int.add_comm]
/-- a number off bytes: it, and what is behind -/
def pnum (i : Nat) (u : Int) : List Int → Option (Int × List Int)
  | [] => none
  | c :: r => if (i = 9 ∧ 1 < c) ∨ (0 < i ∧ c = 0) then none else if c < 128 then some (u + c % 128 * 128 ^ i, r) else pnum (i + 1) (u + c % 128 * 128 ^ i) r
end Go.Den
namespace Go.Den
open Go
theorem pnum_suffix : ∀ {zs : List Int} {i : Nat} {u v : Int} {r : List Int}, pnum i u zs = some (v, r) → ∃ pre, pre ≠ [] ∧ zs = pre ++ r
  | [], i, u, v, r, h => by simp [pnum] at h
  | c :: zs, i, u, v, r, h => by
    rw [pnum] at h
    split at h
    · cases h
    · split at h
      · simp only [Option.some.injEq, Prod.mk.injEq] at h
        exact ⟨[c], by simp, by simp [h.2]⟩
      · obtain ⟨pre, _, hp⟩ := pnum_suffix h
        exact ⟨c :: pre, by simp, by simp [hp]⟩
theorem pnum_len {zs : List Int} {i : Nat} {u v : Int} {r : List Int} (h : pnum i u zs = some (v, r)) : r.length < zs.length := by
  obtain ⟨pre, h1, rfl⟩ := pnum_suffix h
  have := List.length_pos_iff.2 h1
  simp; omega
theorem R8.tail {a b : List Int} (h : R8 (a ++ b)) : R8 b := fun z hz => h z (List.mem_append_right _ hz)
theorem R8.head {a b : List Int} (h : R8 (a ++ b)) : R8 a := fun z hz => h z (List.mem_append_left _ hz)
theorem R8.append {a b : List Int} (h : R8 a) (k : R8 b) : R8 (a ++ b) := fun z hz => (List.mem_append.1 hz).elim (h z) (k z)
theorem R8.take {a : List Int} (h : R8 a) (n : Nat) : R8 (a.take n) := fun z hz => h z (List.mem_of_mem_take hz)
theorem R8.drop {a : List Int} (h : R8 a) (n : Nat) : R8 (a.drop n) := fun z hz => h z (List.mem_of_mem_drop hz)
theorem pnum_R8 {zs : List Int} {i : Nat} {u v : Int} {r : List Int} (h : pnum i u zs = some (v, r)) (hz : R8 zs) : R8 r := by
  obtain ⟨pre, _, rfl⟩ := pnum_suffix h
  exact hz.tail
theorem pnum_nonneg : ∀ {zs : List Int} {i : Nat} {u v : Int} {r : List Int}, pnum i u zs = some (v, r) → 0 ≤ u → 0 ≤ v
  | [], i, u, v, r, h, _ => by simp [pnum] at h
  | c :: zs, i, u, v, r, h, hu => by
    have h3 : 0 ≤ u + c % 128 * 128 ^ i := Int.add_nonneg hu (Int.mul_nonneg (by omega) (Int.pow_nonneg (by decide)))
    rw [pnum] at h
    split at h
    · cases h
    · split at h
      · simp only [Option.some.injEq, Prod.mk.injEq] at h
        rw [← h.1]; exact h3
      · exact pnum_nonneg h h3
/-- what was told is read; what is cut within is not -/
theorem pnum_num (k : Nat) : ∀ {u : Int} {i : Nat} {a : Int} (r : List Int), 0 ≤ u → u < 128 ^ (k + 1) → (i + k ≤ 9) → (i + k = 9 → u < 2 * 128 ^ k) → (0 < i → 0 < u) → pnum i a (num u ++ r) = some (a + u * 128 ^ i, r) := by
  induction k with
  | zero =>
    intro u i a r h0 h1 hi h9 hz
    have hu : u < 128 := by simpa using h1
    rw [num_lt h0 hu, List.cons_append, pnum, if_neg, if_pos hu, List.nil_append]
    · rw [Int.emod_eq_of_lt h0 hu]
    · rintro (⟨h, h'⟩ | ⟨h, h'⟩)
      · have := h9 (by omega); simp at this; omega
      · have := hz h; omega
  | succ k ih =>
    intro u i a r h0 h1 hi h9 hz
    by_cases hu : u < 128
    · rw [num_lt h0 hu, List.cons_append, pnum, if_neg, if_pos hu, List.nil_append]
      · rw [Int.emod_eq_of_lt h0 hu]
      · rintro (⟨h, h'⟩ | ⟨h, h'⟩)
        · omega
        · have := hz h; omega
    · rw [num_ge (by omega), List.cons_append, pnum, if_neg, if_neg (by omega)]
      · rw [ih (u := u / 128) (i := i + 1) r (by omega) (by rw [Int.pow_succ] at h1; omega) (by omega) (fun h => by
          have := h9 (by omega)
          rw [Int.pow_succ] at this; omega) (fun _ => by omega)]
        congr 2
        rw [Int.pow_succ, show (u % 128 + 128) % 128 = u % 128 from by omega]
        have : u = u % 128 + 128 * (u / 128) := by omega
        have e : u * 128 ^ i = u % 128 * 128 ^ i + u / 128 * (128 ^ i * 128) := by
          conv => lhs; rw [this]
          rw [Int.add_mul, Int.mul_comm 128 (u / 128), Int.mul_assoc, Int.mul_comm 128 (128 ^ i)]
        omega
      · rintro (⟨h, h'⟩ | ⟨h, h'⟩)
        · omega
        · omega
theorem pnum_of_num {u : Int} (r : List Int) (h0 : 0 ≤ u) (h1 : u < 18446744073709551616) : pnum 0 0 (num u ++ r) = some (u, r) := by
  have := pnum_num 9 (i := 0) (a := 0) r h0 (Int.lt_of_lt_of_le h1 (by decide)) (by omega) (fun _ => Int.lt_of_lt_of_le h1 (by decide)) (by omega)
  simpa using this
theorem num_R8 (k : Nat) : ∀ {u : Int}, 0 ≤ u → u < 128 ^ (k + 1) → R8 (num u) := by
  induction k with
  | zero => intro u h0 h; rw [num_lt h0 (by simpa using h)]; intro z hz; simp at hz h; omega
  | succ k ih =>
    intro u h0 h
    by_cases hu : u < 128
    · rw [num_lt h0 hu]; intro z hz; simp at hz; omega
    · rw [num_ge (by omega)]
      intro z hz
      rcases List.mem_cons.1 hz with rfl | hz
      · omega
      · exact ih (u := u / 128) (by omega) (by rw [Int.pow_succ] at h; omega) z hz
theorem num_r8 {u : Int} (h0 : 0 ≤ u) (h : u < 18446744073709551616) : R8 (num u) := num_R8 9 h0 (Int.lt_of_lt_of_le h (by decide))
/-- cut within it is none -/
theorem pnum_cut : ∀ (k : Nat) {u : Int} {i : Nat} {a : Int} {n : Nat}, 0 ≤ u → u < 128 ^ (k + 1) → n < (num u).length → pnum i a ((num u).take n) = none := by
  intro k
  induction k with
  | zero => intro u i a n h0 h hn; rw [num_lt h0 (by simpa using h)] at hn ⊢; simp at hn; subst hn; rfl
  | succ k ih =>
    intro u i a n h0 h hn
    by_cases hu : u < 128
    · rw [num_lt h0 hu] at hn ⊢; simp at hn; subst hn; rfl
    · rw [num_ge (by omega)] at hn ⊢
      cases n with
      | zero => rfl
      | succ n =>
        rw [List.take_succ_cons, pnum]
        split
        · rfl
        · rw [if_neg (by omega)]
          exact ih (u := u / 128) (by omega) (by rw [Int.pow_succ] at h; omega) (by simpa using hn)
theorem pnum_cut10 {u : Int} {n : Nat} (h0 : 0 ≤ u) (h : u < 18446744073709551616) (hn : n < (num u).length) : pnum 0 0 ((num u).take n) = none := pnum_cut 9 h0 (Int.lt_of_lt_of_le h (by decide)) hn
end Go.Den
namespace Go.Den
open Go
theorem sand_mask (j : Nat) (hj : j < 64) (a : Int) : sand a ((2 ^ j - 1 : Nat) : Int) = a % ((2 ^ j : Nat) : Int) := by
  unfold sand
  have hp : 2 ^ j < 18446744073709551616 := by
    have : (2 : Nat) ^ j < 2 ^ 64 := Nat.pow_lt_pow_right (by decide) hj
    simpa using this
  have h1 : 0 < 2 ^ j := Nat.two_pow_pos j
  have e1 : (BitVec.ofInt 64 ((2 ^ j - 1 : Nat) : Int)).toNat = 2 ^ j - 1 := by
    rw [BitVec.toNat_ofInt]; omega
  have e2 : (BitVec.ofInt 64 a &&& BitVec.ofInt 64 ((2 ^ j - 1 : Nat) : Int)).toNat = (BitVec.ofInt 64 a).toNat % 2 ^ j := by
    rw [BitVec.toNat_and, e1, Nat.and_two_pow_sub_one_eq_mod]
  have hp63 : 2 ^ j ≤ 9223372036854775808 := by
    have : (2 : Nat) ^ j ≤ 2 ^ 63 := Nat.pow_le_pow_right (by decide) (by omega)
    simpa using this
  have h3 := Nat.mod_lt (BitVec.ofInt 64 a).toNat h1
  rw [BitVec.toInt_eq_toNat_of_lt (by rw [e2]; omega), e2, BitVec.toNat_ofInt]
  have hd : (2 : Int) ^ 64 = ((2 ^ j : Nat) : Int) * ((2 ^ (64 - j) : Nat) : Int) := by
    rw [← Int.natCast_mul, ← Nat.pow_add, show j + (64 - j) = 64 by omega]; rfl
  rw [Int.natCast_emod, Int.toNat_of_nonneg (Int.emod_nonneg _ (by decide))]
  show a % (((2 : Nat) ^ 64 : Nat) : Int) % _ = _
  rw [show ((((2 : Nat) ^ 64 : Nat)) : Int) = ((2 ^ j : Nat) : Int) * ((2 ^ (64 - j) : Nat) : Int) from by exact_mod_cast hd]
  rw [Int.emod_emod_of_dvd _ (Int.dvd_mul_right _ _)]
theorem sand1 (a : Int) : sand a 1 = a % 2 := sand_mask 1 (by decide) a
theorem sand3 (a : Int) : sand a 3 = a % 4 := sand_mask 2 (by decide) a
theorem sand7 (a : Int) : sand a 7 = a % 8 := sand_mask 3 (by decide) a
theorem sand15 (a : Int) : sand a 15 = a % 16 := sand_mask 4 (by decide) a
theorem sand31 (a : Int) : sand a 31 = a % 32 := sand_mask 5 (by decide) a
theorem sand63 (a : Int) : sand a 63 = a % 64 := sand_mask 6 (by decide) a
theorem sand127 (a : Int) : sand a 127 = a % 128 := sand_mask 7 (by decide) a
theorem sand255 (a : Int) : sand a 255 = a % 256 := sand_mask 8 (by decide) a
theorem sand65535 (a : Int) : sand a 65535 = a % 65536 := sand_mask 16 (by decide) a
attribute [go_sem] sand1 sand3 sand7 sand15 sand31 sand63 sand127 sand255 sand65535
end Go.Den
namespace Go.Den
open Go Go.Proofs Go.RowKit
def R64 (zs : List Int) : Prop := ∀ z ∈ zs, 0 ≤ z ∧ z < 18446744073709551616
def Ri64 (zs : List Int) : Prop := ∀ z ∈ zs, -9223372036854775808 ≤ z ∧ z < 9223372036854775808
def RowIs (k : IntKind) (w : World) (a : Option Addr) (len cap : Nat) (zs : List Int) : Prop :=
  (a = none ∧ len = 0 ∧ cap = 0 ∧ zs = []) ∨ ∃ x, a = some x ∧ len ≤ cap ∧ cap ≤ maxLen ∧ zs.length = cap ∧ (∀ i, i < zs.length → w.cell? (x.add i) = some (.int k (zs.getD i 0))) ∧ ∀ n ∈ zs, (Lit.int k n).wf = true
theorem row_wf {k : IntKind} {w : World} {a : Option Addr} {len cap : Nat} {zs : List Int} (h : RowIs k w a len cap zs) : ∀ z ∈ zs.take len, (Lit.int k z).wf = true := by
  intro z hz
  rcases h with ⟨_, _, _, rfl⟩ | ⟨x, _, _, _, _, _, h⟩
  · simp at hz
  · exact h z (List.mem_of_mem_take hz)
theorem row_R8 {w : World} {a : Option Addr} {len cap : Nat} {zs : List Int} (h : RowIs .u8 w a len cap zs) : R8 (zs.take len) := fun z hz => wf_u8 (row_wf h z hz)
theorem row_R64 {w : World} {a : Option Addr} {len cap : Nat} {zs : List Int} (h : RowIs .u64 w a len cap zs) : R64 (zs.take len) := fun z hz => wf_u64 (row_wf h z hz)
theorem row_Ri64 {w : World} {a : Option Addr} {len cap : Nat} {zs : List Int} (h : RowIs .i64 w a len cap zs) : Ri64 (zs.take len) := fun z hz => wf_i64 (row_wf h z hz)
theorem row_len {k : IntKind} {w : World} {a : Option Addr} {len cap : Nat} {zs : List Int} (h : RowIs k w a len cap zs) : (zs.take len).length ≤ maxLen := by
  rcases h with ⟨_, _, _, rfl⟩ | ⟨x, _, h1, h2, _⟩
  · simp
  · rw [List.length_take]; omega
end Go.Den
