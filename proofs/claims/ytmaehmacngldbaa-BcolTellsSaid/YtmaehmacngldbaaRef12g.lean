/- The document's own columns: what is read. -/
import Derived.Test.YtmaehmacngldbaaRef11
namespace Go.Proofs.Ytmaehmacngldbaa.D
open Go Go.Den
set_option linter.unusedSimpArgs false
set_option linter.unusedVariables false
set_option maxRecDepth 20000
set_option maxHeartbeats 8000000
theorem get_spec {b : List Int} {c : Int} {nums : Bool} (h8 : R8 b) (hl : b.length ≤ 100000000) : ∃ Y, dw E 31 [.sl 1 (ints .u8 b), .int .i64 c, .bool nums] [] = some (Y, []) ∧ GetR (refGet nums b c) Y := by
  by_cases hb : c < 0 ∨ 65535 < c ∨ b = []
  · refine ⟨_, get_bad hb (by omega), ?_⟩
    have : refGet nums b c = none := by
      unfold refGet
      cases b with
      | nil => rfl
      | cons k zs =>
        dsimp only
        rw [if_neg]
        rcases hb with h | h | h
        · omega
        · omega
        · cases h
    rw [this]
    rfl
  · cases b with
    | nil => exact absurd (.inr (.inr rfl)) hb
    | cons k zs =>
      obtain ⟨n, rfl⟩ := Int.eq_ofNat_of_zero_le (a := c) (by omega)
      simp only [List.length_cons] at hl
      by_cases h1 : k = 1
      · subst h1; exact get_1 h8 (by omega) (by omega)
      by_cases h2 : k = 2
      · subst h2; exact get_2 h8 (by omega) (by omega)
      by_cases h4 : k = 4
      · subst h4; exact get_4 h8 (by omega) (by omega)
      by_cases h3 : k = 3 ∧ 0 < n
      · obtain ⟨rfl, h⟩ := h3
        exact get_3 h8 (by omega) h (by omega)
      · refine get_o h8 ⟨⟨h1, h2, h4⟩, fun hk => ?_⟩ (by omega) (by omega)
        by_cases h : n = 0
        · exact h
        · exact absurd ⟨hk, by omega⟩ h3
end Go.Proofs.Ytmaehmacngldbaa.D
