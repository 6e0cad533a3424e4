/- Columns of bytes: what was told, in numbers. -/
import Derived.Test.YtmaehmacngldbaaBcol14
namespace Go.Proofs.Ytmaehmacngldbaa.D
open Go Go.Den
set_option linter.unusedSimpArgs false
set_option linter.unusedVariables false
set_option maxRecDepth 20000
set_option maxHeartbeats 8000000
theorem blB_some (zs : List Int) : bl (some zs) = .sl 1 (ints .u8 zs) := rfl
theorem blB_none : bl none = .nils := rfl
theorem tell_kind {k : Int} {L : List RB'} {b : List Int} (h : refTell false k L = some b) : ∃ z, b = k :: z := by
  unfold refTell at h
  split at h
  · cases h
  · rw [Option.map_eq_some_iff] at h
    obtain ⟨z, _, h⟩ := h
    exact ⟨z, h.symm⟩
theorem bestB {L : List RB'} (hl : L.length ≤ 65535) : ∃ k, 1 ≤ k ∧ k ≤ 4 ∧ refTell false k L = some (refBest false L) ∧ ∀ k' b', refTell false k' L = some b' → (refBest false L).length ≤ b'.length ∧ (b'.length = (refBest false L).length → k ≤ k') := by
  have h1 : refTell false 1 L = some (1 :: toldL false L) := by unfold refTell; rw [if_neg (by omega)]; rfl
  have h2 : refTell false 2 L = some (2 :: rnsO false L) := by unfold refTell; rw [if_neg (by omega)]; rfl
  have h4 : refTell false 4 L = some (4 :: dictO false L) := by unfold refTell; rw [if_neg (by omega)]; rfl
  have hall : ∀ k' b', refTell false k' L = some b' → (k' = 1 ∧ b' = 1 :: toldL false L) ∨ (k' = 2 ∧ b' = 2 :: rnsO false L) ∨ (k' = 4 ∧ b' = 4 :: dictO false L) := by
    intro k' b' h
    unfold refTell at h
    rw [if_neg (by omega)] at h
    unfold refBody at h
    by_cases e1 : k' = 1
    · subst e1; exact .inl ⟨rfl, by injection h with h; exact h.symm⟩
    by_cases e2 : k' = 2
    · subst e2; exact .inr (.inl ⟨rfl, by injection h with h; exact h.symm⟩)
    by_cases e3 : k' = 3
    · subst e3; cases h
    by_cases e4 : k' = 4
    · subst e4; exact .inr (.inr ⟨rfl, by injection h with h; exact h.symm⟩)
    · rw [if_neg e1, if_neg e2, if_neg e3, if_neg e4] at h
      cases h
  unfold refBest
  rw [if_neg (by omega)]
  simp only [Bool.false_eq_true, if_false]
  generalize (1 :: toldL false L : List Int) = c1 at *
  generalize (2 :: rnsO false L : List Int) = c2 at *
  generalize (4 :: dictO false L : List Int) = c4 at *
  rcases pickB_cases c1 c2 with ⟨e1, a1⟩ | ⟨e1, a1⟩ <;> rw [e1]
  · rcases pickB_cases c2 c4 with ⟨e3, a3⟩ | ⟨e3, a3⟩ <;> rw [e3]
    · exact ⟨4, by omega, by omega, h4, fun k' b' h => by rcases hall k' b' h with ⟨rfl, rfl⟩ | ⟨rfl, rfl⟩ | ⟨rfl, rfl⟩ <;> exact ⟨by omega, fun _ => by omega⟩⟩
    · exact ⟨2, by omega, by omega, h2, fun k' b' h => by rcases hall k' b' h with ⟨rfl, rfl⟩ | ⟨rfl, rfl⟩ | ⟨rfl, rfl⟩ <;> exact ⟨by omega, fun _ => by omega⟩⟩
  · rcases pickB_cases c1 c4 with ⟨e3, a3⟩ | ⟨e3, a3⟩ <;> rw [e3]
    · exact ⟨4, by omega, by omega, h4, fun k' b' h => by rcases hall k' b' h with ⟨rfl, rfl⟩ | ⟨rfl, rfl⟩ | ⟨rfl, rfl⟩ <;> exact ⟨by omega, fun _ => by omega⟩⟩
    · exact ⟨1, by omega, by omega, h1, fun k' b' h => by rcases hall k' b' h with ⟨rfl, rfl⟩ | ⟨rfl, rfl⟩ | ⟨rfl, rfl⟩ <;> exact ⟨by omega, fun _ => by omega⟩⟩
theorem tell_facts {k : Int} {L : List RB'} {b : List Int} (h : B64 L) (hl : L.length ≤ 65535) (hb : refTell false k L = some b) : R8 b ∧ 1 ≤ b.length ∧ b.length ≤ 9000001 := by
  unfold refTell at hb
  rw [if_neg (by omega), Option.map_eq_some_iff] at hb
  obtain ⟨z, hz, rfl⟩ := hb
  obtain ⟨b1, b2, b3⟩ := refBody_len h hl hz
  have b8 := refBody_R8 h hl hz
  refine ⟨fun y hy => ?_, by simp, by simp; omega⟩
  rcases List.mem_cons.1 hy with rfl | hy
  · omega
  · exact b8 y hy
theorem tell_some {k : Int} {L : List RB'} (hl : L.length ≤ 65535) (h1 : k = 1 ∨ k = 2 ∨ k = 4) : ∃ b, refTell false k L = some b := by
  unfold refTell
  rw [if_neg (by omega)]
  rcases h1 with rfl | rfl | rfl <;> exact ⟨_, rfl⟩
theorem B64_short {L : List RB'} (h : Raw L) (hs : shortO L = true) : B64 L := fun o ho => ⟨(h o ho).1, shortO_iff.1 hs o ho⟩
/-- what was told in a kind is decoded -/
theorem round_trip {k : Int} {L : List RB'} {b : List Int} (h : B64 L) (hl : L.length ≤ 65535) (hb : refTell false k L = some b) : ∃ X l', IsOB X l' ∧ l'.map bz = L.map bz ∧ dw E 9 [.sl 1 (ints .u8 b), .int .i64 L.length] [] = some (.tup [X, .bool true], []) := by
  obtain ⟨f1, f2, f3⟩ := tell_facts h hl hb
  obtain ⟨Y, hY, hD⟩ := Decode_any (b := b) (c := L.length) f1 (by omega)
  rw [decB_tell (shortO_iff.2 fun o ho => (h o ho).2) hb] at hD
  obtain ⟨X, l', hX, he, rfl⟩ := hD
  exact ⟨X, l', hX, by rw [he, nz_bz], hY⟩
end Go.Proofs.Ytmaehmacngldbaa.D
