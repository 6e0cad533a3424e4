/- Den, part Ze: numbers' bits, in the words of the walk. No program in sight. -/
import Derived.Test.YtahhpnilblcfcaaDenZd
import Derived.Below
namespace Go.Den
open Go
theorem bv_zero : BitVec.ofInt 64 0 = 0#64 := by decide
theorem bv_ones : BitVec.ofInt 64 18446744073709551615 = BitVec.allOnes 64 := by decide
theorem bv_m1 : BitVec.ofInt 64 (-1) = BitVec.allOnes 64 := by decide
theorem and_one (u : Int) : band 64 u 1 = u % 2 := by
  unfold band
  rw [BitVec.toNat_and, show (BitVec.ofInt 64 1).toNat = 1 from by decide, Nat.and_one_is_mod, BitVec.toNat_ofInt]
  omega
/-- what a number is, without a sign -/
def zig (n : Int) : Int := if n < 0 then -2 * n - 1 else 2 * n
def zag (u : Int) : Int := if u % 2 = 1 then -(u / 2) - 1 else u / 2
theorem zig_law {n : Int} (h0 : -9223372036854775808 ≤ n) (h1 : n < 9223372036854775808) :
    bxor 64 (n % 18446744073709551616 * 2 % 18446744073709551616) (n.fdiv 9223372036854775808 % 18446744073709551616) = zig n := by
  have hf : n.fdiv 9223372036854775808 = if n < 0 then -1 else 0 := by
    rw [Int.fdiv_eq_ediv_of_nonneg _ (by decide)]; split <;> omega
  rw [hf]
  unfold zig bxor
  split
  · rw [show ((-1 : Int) % 18446744073709551616) = 18446744073709551615 from by decide, bv_ones, BitVec.xor_allOnes, BitVec.toNat_not, BitVec.toNat_ofInt]
    omega
  · rw [show ((0 : Int) % 18446744073709551616) = 0 from by decide, bv_zero, BitVec.xor_zero, BitVec.toNat_ofInt]
    omega
theorem zag_law {u : Int} (h0 : 0 ≤ u) (h1 : u < 18446744073709551616) :
    sxor ((u.fdiv 2 + 9223372036854775808) % 18446744073709551616 - 9223372036854775808) ((0 - ((u % 2 + 9223372036854775808) % 18446744073709551616 - 9223372036854775808) + 9223372036854775808) % 18446744073709551616 - 9223372036854775808) = zag u := by
  rw [Int.fdiv_eq_ediv_of_nonneg _ (by decide)]
  unfold zag sxor
  rcases (show u % 2 = 0 ∨ u % 2 = 1 from by omega) with h | h
  · rw [h, show ((0 - ((0 + 9223372036854775808) % 18446744073709551616 - 9223372036854775808) + 9223372036854775808) % 18446744073709551616 - 9223372036854775808 : Int) = 0 from by decide, bv_zero, BitVec.xor_zero, if_neg (by decide), BitVec.toInt_ofInt, Int.bmod_def]
    omega
  · rw [h, show ((0 - ((1 + 9223372036854775808) % 18446744073709551616 - 9223372036854775808) + 9223372036854775808) % 18446744073709551616 - 9223372036854775808 : Int) = -1 from by decide, bv_m1, BitVec.xor_allOnes, BitVec.toInt_not, BitVec.toNat_ofInt, if_pos rfl, Int.bmod_def]
    omega
theorem zag_zig (n : Int) : zag (zig n) = n := by unfold zag zig; split <;> split <;> omega
theorem zig_odd (n : Int) : zig n % 2 = if n < 0 then 1 else 0 := by unfold zig; split <;> omega
theorem zig_lo (n : Int) : 0 ≤ zig n := by unfold zig; split <;> omega
theorem zig_hi {n : Int} (h0 : -9223372036854775808 ≤ n) (h1 : n < 9223372036854775808) : zig n < 18446744073709551616 := by unfold zig; split <;> omega
end Go.Den
namespace Go.Den
open Go Go.Proofs Go.RowKit
theorem wf_i64 {n : Int} (h : (Lit.int .i64 n).wf = true) : -9223372036854775808 ≤ n ∧ n < 9223372036854775808 := by
  simp [Lit.wf, IntKind.min, IntKind.max, IntKind.bits, IntKind.signed] at h; omega
theorem wf_u64 {n : Int} (h : (Lit.int .u64 n).wf = true) : 0 ≤ n ∧ n < 18446744073709551616 := by
  simp [Lit.wf, IntKind.min, IntKind.max, IntKind.bits, IntKind.signed] at h; omega
theorem wf_u8 {n : Int} (h : (Lit.int .u8 n).wf = true) : 0 ≤ n ∧ n < 256 := by
  simp [Lit.wf, IntKind.min, IntKind.max, IntKind.bits, IntKind.signed] at h; omega
/-- A law that comes to true. -/
theorem law_dw {E : Env} (hE : EnvOK E) {f : FuncId} {args : List PV} {w : World} {vs : Array Value} (h : dw E f args [] = some (.bool true, [])) (ha : ArgsOk w (fun k => k < w.heap.size) (Gl w (fun k => k < w.heap.size) []) vs args) :
    Calls E.P f vs w fun e w' => e = .returned (.bool true) ∧ Below w.heap.size w w' := by
  obtain ⟨k, hk⟩ := of_dw h
  exact law_calls hE hk ha
theorem args_nil {w : World} {ok G} : ArgsOk w ok G (List.toArray []) [] := ⟨rfl, fun j v p hv _ => by simp at hv⟩
theorem args_cons {w : World} {ok G} {v : Value} {p : PV} {vs : List Value} {ps : List PV} (h : RepS w ok G v p) (hr : ArgsOk w ok G vs.toArray ps) : ArgsOk w ok G (v :: vs).toArray (p :: ps) := by
  refine ⟨by simpa using hr.1, fun j v' p' hv hp => ?_⟩
  cases j with
  | zero => simp at hv hp; subst hv; subst hp; exact h
  | succ j => exact hr.2 j v' p' (by simpa using hv) (by simpa using hp)
end Go.Den
