/- A predicate that may be asked of rows. -/
import Derived.Test.YtjhdickfkpcccaaPred2
namespace Go.Proofs.Ytjhdickfkpcccaa.D
open Go Go.Den
theorem rw_kinds : (1 : Int) ≤ 6 := by decide
inductive RW (m : Nat) : Prd → Prop where
  | mk {k c o : Int} {v : Val} {n : Bool} {l : List Prd} : 1 ≤ k ∧ k ≤ 6 → (k = 2 → (0 ≤ c ∧ c < m) ∧ 1 ≤ o ∧ o ≤ 6) → (k = 3 → 0 ≤ c ∧ c < m) → (k = 6 → l ≠ []) → (∀ q ∈ l, RW m q) → RW m (.mk k c o v n l)
end Go.Proofs.Ytjhdickfkpcccaa.D
