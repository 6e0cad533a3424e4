/- Columns of bytes: any bytes decoded; one of the values. -/
import Derived.Test.YtmaehmacngldbaaBcol12
namespace Go.Proofs.Ytmaehmacngldbaa.D
open Go Go.Den
set_option linter.unusedSimpArgs false
set_option linter.unusedVariables false
set_option maxRecDepth 20000
set_option maxHeartbeats 8000000
/-! ### the program's, at any bytes -/
theorem decB_count {b : List Int} {c : Int} (h : c < 0 ∨ 65535 < c ∨ b = []) : decB b c = none := by
  unfold decB
  split
  · rfl
  · rename_i k zs
    rw [if_neg]
    rcases h with h | h | h
    · omega
    · omega
    · cases h
theorem Decode_any {b : List Int} {c : Int} (h8 : R8 b) (hl : b.length ≤ 100000000) : ∃ Y, dw E 9 [.sl 1 (ints .u8 b), .int .i64 c] [] = some (Y, []) ∧ DecB (decB b c) Y := by
  by_cases h : c < 0 ∨ 65535 < c ∨ b = []
  · rw [decB_count h]
    exact ⟨_, Decode_bad h (by omega), rfl⟩
  · cases b with
    | nil => exact absurd (.inr (.inr rfl)) h
    | cons k zs =>
      obtain ⟨n, rfl⟩ := Int.eq_ofNat_of_zero_le (a := c) (by omega)
      simp only [List.length_cons] at hl
      exact Decode_sl h8 (by omega) (by omega)
def atB' (b : List Int) (c i : Int) : Option (List Int) := match decB b c with
  | none => none
  | some l => if i < 0 then none else (l[i.toNat]?).map bz
theorem decB_len {b : List Int} {l : List RB'} {c : Int} (h : decB b c = some l) : (l.length : Int) = c ∧ l.length ≤ 65535 ∧ shortO l = true := by
  obtain ⟨k, zs, rfl, ht, hs, hc⟩ := decB_some h
  refine ⟨hc, ?_, hs⟩
  unfold refTell at ht
  split at ht
  · cases ht
  · omega
/-- a value at a place: its bytes -/
def AtR (o : Option (List Int)) (Y : PV) : Prop := match o with
  | none => Y = .tup [.nils, .bool false]
  | some z => ∃ q : RB', bz q = z ∧ Y = .tup [bl q, .bool true]
theorem At_any {b : List Int} {c i : Int} (h8 : R8 b) (hl : b.length ≤ 100000000) : ∃ Y, dw E 10 [.sl 1 (ints .u8 b), .int .i64 c, .int .i64 i] [] = some (Y, []) ∧ AtR (atB' b c i) Y := by
  obtain ⟨Y, hY, hD⟩ := Decode_any (c := c) h8 hl
  unfold atB'
  cases hd : decB b c with
  | none =>
    rw [hd] at hD
    have hD : Y = .tup [.nils, .bool false] := hD
    subst hD
    refine ⟨_, ?_, rfl⟩
    refine dw_in (fn := Try.f10) rfl body10 (by simp) ?_
    simp -implicitDefEqProofs (maxSteps := 4000000) (disch := omega) only [go_sem, go_sem_proc, dr, Nat.min_def, ↓reduceIte, hY]
  | some l =>
    have hll := decB_len hd
    rw [hd] at hD
    obtain ⟨X, l', hX, he, rfl⟩ := hD
    have hl' := len_of he
    dsimp only
    by_cases hi : i < 0
    · rw [if_pos hi]
      refine ⟨_, ?_, rfl⟩
      rcases hX with rfl | ⟨rfl, rfl⟩ <;> (refine dw_in (fn := Try.f10) rfl body10 (by simp) ?_) <;> simp -implicitDefEqProofs (maxSteps := 4000000) (disch := omega) only [go_sem, go_sem_proc, dr, Nat.min_def, ↓reduceIte, hY]
    · rw [if_neg hi]
      cases hg : l[i.toNat]? with
      | none =>
        have hge : (l'.length : Int) ≤ i := by
          have := List.getElem?_eq_none_iff.1 hg
          omega
        refine ⟨_, ?_, rfl⟩
        rcases hX with rfl | ⟨rfl, rfl⟩
        · refine dw_in (fn := Try.f10) rfl body10 (by simp) ?_
          simp -implicitDefEqProofs (maxSteps := 4000000) (disch := omega) only [go_sem, go_sem_proc, dr, Nat.min_def, ↓reduceIte, hY, List.length_map]
        · simp only [List.length_nil] at hge
          have hge : 0 ≤ i := by omega
          refine dw_in (fn := Try.f10) rfl body10 (by simp) ?_
          simp -implicitDefEqProofs (maxSteps := 4000000) (disch := omega) only [go_sem, go_sem_proc, dr, Nat.min_def, ↓reduceIte, hY]
      | some x =>
        have hlt : i < (l'.length : Int) := by
          have := (List.getElem?_eq_some_iff.1 hg).1
          omega
        obtain ⟨q, hq, _, _⟩ := take_get (l := l') (i := i.toNat) (by omega)
        have hqx : bz q = bz x := by
          have h1 := congrArg (fun m : List (List Int) => m[i.toNat]?) he
          simp only [List.getElem?_map, hq, hg, Option.map_some, Option.some.injEq] at h1
          exact h1
        refine ⟨.tup [bl q, .bool true], ?_, q, hqx, rfl⟩
        clear hqx
        rcases hX with rfl | ⟨rfl, rfl⟩
        · have hgm : (l'.map brow)[i.toNat]? = some [bl q] := by simp [hq, brow]
          have hlm : (l'.map brow).length = l'.length := List.length_map ..
          generalize l'.map brow = M at *
          refine dw_in (fn := Try.f10) rfl body10 (by simp) ?_
          simp -implicitDefEqProofs (maxSteps := 4000000) (disch := omega) only [go_sem, go_sem_proc, dr, Nat.min_def, ↓reduceIte, hY, hgm, hlm]
        · simp only [List.length_nil] at hlt
          omega
theorem At_nils {c i : Int} : dw E 10 [.nils, .int .i64 c, .int .i64 i] [] = some (.tup [.nils, .bool false], []) := by
  have hD := Decode_nils (c := c)
  refine dw_in (fn := Try.f10) rfl body10 (by simp) ?_
  simp -implicitDefEqProofs (maxSteps := 4000000) (disch := omega) only [go_sem, go_sem_proc, dr, Nat.min_def, ↓reduceIte, hD]
end Go.Proofs.Ytmaehmacngldbaa.D
