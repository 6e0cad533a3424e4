/- The document's own columns: read of bytes: plain. -/
import Derived.Test.YtmaehmacngldbaaRef7
namespace Go.Proofs.Ytmaehmacngldbaa.D
open Go Go.Den
set_option linter.unusedSimpArgs false
set_option linter.unusedVariables false
set_option maxRecDepth 20000
set_option maxHeartbeats 8000000
theorem refPl_good {nums : Bool} {s : RS} (h : GS s) : ∀ j, GS (refPl nums s j).2 ∧ BS (refPl nums s j).1 ∧ (refPl nums s j).1.length ≤ j
  | 0 => ⟨h, fun o ho => by simp [refPl] at ho, Nat.le_refl _⟩
  | j + 1 => by
    obtain ⟨h1, h2, h3⟩ := refPl_good h j
    unfold refPl
    split
    · exact ⟨h1, h2, by omega⟩
    · obtain ⟨g1, g2, g3⟩ := rvalS_good (nums := nums) h1
      refine ⟨g1, fun o ho => ?_, by simp; omega⟩
      rcases List.mem_append.1 ho with ho | ho
      · exact h2 o ho
      · rw [List.mem_singleton.1 ho]; exact ⟨g2, g3⟩
theorem refPl_bad {nums : Bool} {s : RS} {j : Nat} (h : (refPl nums s j).2.2 = true) : ∀ m, j ≤ m → refPl nums s m = refPl nums s j := by
  intro m hm
  induction m with
  | zero => obtain rfl : j = 0 := by omega
            rfl
  | succ m ih =>
    by_cases hj : j = m + 1
    · rw [hj]
    · have := ih (by omega)
      have e : refPl nums s (m + 1) = if (refPl nums s m).2.2 then refPl nums s m else ((refPl nums s m).1 ++ [(rvalS nums (refPl nums s m).2).1], (rvalS nums (refPl nums s m).2).2) := rfl
      rw [e, this, if_pos h]
theorem short_spec {L : List RB'} (hl : L.length ≤ 1000000) : dw E 25 [.sl 1 (L.map brow)] [] = some (.bool (shortO L), []) := by
  refine dw_in (fn := Try.f25) rfl body25 (by simp) ?_
  simp -implicitDefEqProofs (maxSteps := 4000000) (disch := omega) only [go_sem, go_sem_proc, dr, Nat.min_def, ↓reduceIte]
  refine runs_any (fun i : Nat => (⟨[(0, .sl 1 (L.map brow)), (3, .int .i64 i)], [], 1⟩ : St)) (fun i => L.length - i) 0 (fun i => i ≤ L.length ∧ shortO (L.take i) = true) ⟨Nat.zero_le _, rfl⟩ ?_ ?_
  · simp -implicitDefEqProofs (maxSteps := 4000000) (disch := omega) only [go_sem, go_sem_proc, dr, Nat.min_def, ↓reduceIte]
  · rintro i ⟨hi, hs⟩
    by_cases hil : i < L.length
    · obtain ⟨o, ho, hm, ht⟩ := take_get hil
      by_cases h64 : (bz o).length ≤ 64
      · simp -implicitDefEqProofs (maxSteps := 4000000) (disch := omega) only [go_sem, go_sem_proc, dr, Nat.min_def, ↓reduceIte, List.length_map, List.getElem?_map, Option.map_some, ho, brow]
        refine ⟨i + 1, rfl, ⟨by omega, ?_⟩, by omega⟩
        rw [ht]
        unfold shortO at hs ⊢
        rw [List.all_append, hs]
        simp [h64]
      · have e : shortO L = false := by
          unfold shortO
          rw [List.all_eq_false]
          exact ⟨o, hm, by simp; omega⟩
        rw [e]
        simp -implicitDefEqProofs (maxSteps := 4000000) (disch := omega) only [go_sem, go_sem_proc, dr, Nat.min_def, ↓reduceIte, List.length_map, List.getElem?_map, Option.map_some, ho, brow]
    · obtain rfl : i = L.length := by omega
      rw [List.take_length] at hs
      rw [hs]
      simp -implicitDefEqProofs (maxSteps := 4000000) (disch := omega) only [go_sem, go_sem_proc, dr, Nat.min_def, ↓reduceIte, List.length_map]
/-- what get gives back -/
def GetR (o : Option (List RB')) (Y : PV) : Prop := match o with
  | none => Y = .tup [.nils, .bool false]
  | some L => ∃ X, (X = .nr 28 1 (L.map brow) ∨ (X = .nils ∧ L = [])) ∧ Y = .tup [X, .bool true]
theorem get_bad {zs : List Int} {c : Int} {nums : Bool} (h : c < 0 ∨ 65535 < c ∨ zs = []) (hl : zs.length ≤ 1000000000) : dw E 31 [.sl 1 (ints .u8 zs), .int .i64 c, .bool nums] [] = some (.tup [.nils, .bool false], []) := by
  refine dw_in (fn := Try.f31) rfl body31 (by simp) ?_
  by_cases h3 : zs = []
  · subst h3
    simp -implicitDefEqProofs (maxSteps := 4000000) (disch := omega) only [go_sem, go_sem_proc, dr, Nat.min_def, ↓reduceIte, List.length_nil]
  have hp : 0 < zs.length := List.length_pos_iff.2 h3
  by_cases h1 : c < 0
  · simp -implicitDefEqProofs (maxSteps := 4000000) (disch := omega) only [go_sem, go_sem_proc, dr, Nat.min_def, ↓reduceIte]
  by_cases h2 : 65535 < c
  · simp -implicitDefEqProofs (maxSteps := 4000000) (disch := omega) only [go_sem, go_sem_proc, dr, Nat.min_def, ↓reduceIte]
  · rcases h with h | h | h
    · omega
    · omega
    · exact absurd h h3
theorem get_1 {zs : List Int} {n : Nat} {nums : Bool} (h8 : R8 (1 :: zs)) (hl : zs.length ≤ 100000000) (hn : n ≤ 65535) : ∃ Y, dw E 31 [.sl 1 (ints .u8 (1 :: zs)), .int .i64 n, .bool nums] [] = some (Y, []) ∧ GetR (refGet nums (1 :: zs) n) Y := by
  have hG : GS (zs, false) := ⟨fun z hz => h8 z (by simp [hz]), by dsimp only; omega⟩
  have hgood := fun j => refPl_good (nums := nums) hG j
  have hbad := fun {j : Nat} => refPl_bad (nums := nums) (s := (zs, false)) (j := j)
  have hget : refGet nums (1 :: zs) n = match refPl nums (zs, false) n with | (out, s) => if s.2 = false ∧ refTell nums 1 out = some (1 :: zs) ∧ out.length = n ∧ (nums = true ∨ shortO out = true) then some out else none := by
    unfold refGet
    simp only [Int.toNat_natCast]
    rw [if_pos (by omega)]
    rfl
  rw [hget]
  obtain ⟨gn1, gn2, gn3⟩ := hgood n
  have hT := rtell_spec (k := 1) (nums := nums) gn2
  have hf := fun t => rtell_len (nums := nums) (k := 1) (b := t) gn2
  have hS := short_spec (L := (refPl nums (zs, false) n).1) (by omega)
  generalize hF : refPl nums (zs, false) n = F at *
  obtain ⟨L, B, bad⟩ := F
  dsimp only at *
  obtain ⟨Y, hY⟩ : ∃ Y, Y = (if bad = false ∧ refTell nums 1 L = some (1 :: zs) ∧ L.length = n ∧ (nums = true ∨ shortO L = true) then PV.tup [.nr 28 1 (L.map brow), .bool true] else .tup [.nils, .bool false]) := ⟨_, rfl⟩
  refine ⟨Y, ?_, ?_⟩
  rotate_left
  · rw [hY]
    split
    · exact ⟨_, .inl rfl, rfl⟩
    · rfl
  refine dw_in (fn := Try.f31) rfl body31 (by simp) ?_
  simp -implicitDefEqProofs (maxSteps := 4000000) (disch := omega) only [go_sem, go_sem_proc, dr, Nat.min_def, ↓reduceIte, List.length_cons, List.getElem?_cons_zero, List.drop_succ_cons, List.drop_zero]
  refine runs_any (fun j : Nat => (⟨[(0, .sl 1 (ints .u8 (1 :: zs))), (1, .int .i64 n), (2, .bool nums), (8, .pb 1048584 0), (9, .h 2097728), (11, .int .i64 j)], [(1048584, some ⟨true, .box (rs2 (refPl nums (zs, false) j).2)⟩), (2097728, some ⟨true, .row 28 1 ((refPl nums (zs, false) j).1.map brow)⟩)], 1⟩ : St)) (fun j => n - j) 0 (fun j => j ≤ n) (Nat.zero_le _) ?_ ?_
  · have e1 : (refPl nums (zs, false) 0).1.map brow = [] := rfl
    have e2 : rs2 (refPl nums (zs, false) 0).2 = [.sl 1 (ints .u8 zs), .bool false] := rfl
    rw [e1, e2]
    clear hgood hbad hget hT hf hS hY
    simp -implicitDefEqProofs (maxSteps := 4000000) (disch := omega) only [go_sem, go_sem_proc, dr, Nat.min_def, ↓reduceIte]
  · intro j hj
    obtain ⟨g1, g2, g3⟩ := hgood j
    by_cases hgo : j < n ∧ (refPl nums (zs, false) j).2.2 = false
    · have hV := value_spec (nums := nums) g1
      have e : refPl nums (zs, false) (j + 1) = ((refPl nums (zs, false) j).1 ++ [(rvalS nums (refPl nums (zs, false) j).2).1], (rvalS nums (refPl nums (zs, false) j).2).2) := by
        have e : refPl nums (zs, false) (j + 1) = if (refPl nums (zs, false) j).2.2 then refPl nums (zs, false) j else ((refPl nums (zs, false) j).1 ++ [(rvalS nums (refPl nums (zs, false) j).2).1], (rvalS nums (refPl nums (zs, false) j).2).2) := rfl
        rw [e, hgo.2]; rfl
      have hgs := hgo.2
      have hgj : (j : Int) < (n : Int) := by omega
      clear hgood hbad hget hT hf hS hY hF hgo
      generalize refPl nums (zs, false) j = p at *
      obtain ⟨out, B1, bad1⟩ := p
      dsimp only at *
      subst hgs
      generalize rvalS nums (B1, false) = q at *
      obtain ⟨o, B2, bad2⟩ := q
      dsimp only at *
      unfold rs2 at *
      dsimp only at *
      cases nums
      · have e1 : valR false o = nilB o := rfl
        rw [e1] at hV
        cases o <;> simp only [nilB] at hV ⊢ <;> simp -implicitDefEqProofs (maxSteps := 4000000) (disch := omega) only [go_sem, go_sem_proc, dr, Nat.min_def, ↓reduceIte, hV, List.length_map] <;> exact ⟨j + 1, by rw [e]; simp only [List.map_append, List.map_cons, List.map_nil, brow, bl]; rfl, by omega, by omega⟩
      · have e1 : valR true o = bl o := rfl
        rw [e1] at hV
        simp -implicitDefEqProofs (maxSteps := 4000000) (disch := omega) only [go_sem, go_sem_proc, dr, Nat.min_def, ↓reduceIte, hV, List.length_map]
        exact ⟨j + 1, by rw [e]; simp only [List.map_append, List.map_cons, List.map_nil, brow]; rfl, by omega, by omega⟩
    · have hex : refPl nums (zs, false) j = (L, B, bad) ∧ (j = n ∨ bad = true) := by
        by_cases hjn : j < n
        · have hb : (refPl nums (zs, false) j).2.2 = true := by
            cases hq : (refPl nums (zs, false) j).2.2 with
            | true => rfl
            | false => exact absurd ⟨hjn, hq⟩ hgo
          have := hbad hb n (by omega)
          rw [hF] at this
          exact ⟨this.symm, .inr (by rw [← this] at hb; exact hb)⟩
        · obtain rfl : j = n := by omega
          exact ⟨hF, .inl rfl⟩
      rw [hex.1]
      have hex2 := hex.2
      dsimp only
      unfold rs2
      dsimp only
      have hjn : bad = false → (j : Int) = (n : Int) := fun hb => by rcases hex2 with h | h; omega; rw [hb] at h; cases h
      clear g1 g2 g3 hex hex2 hgood hbad hget hF hgo
      cases bad with
      | true =>
        rw [if_neg (by rintro ⟨h, _⟩; cases h)] at hY
        subst hY
        clear hf hS hjn
        rcases Nat.lt_or_eq_of_le hj with hjl | rfl <;> cases hR : refTell nums 1 L <;> rw [hR] at hT <;> simp only [rtellR] at hT <;> simp -implicitDefEqProofs (maxSteps := 4000000) (disch := omega) only [go_sem, go_sem_proc, dr, Nat.min_def, ↓reduceIte, hT, List.length_cons, List.getElem?_cons_zero, List.length_map]
      | false =>
        have hjn' := hjn rfl
        cases hR : refTell nums 1 L with
        | none =>
          rw [hR] at hT hY
          rw [if_neg (by rintro ⟨_, h, _⟩; cases h)] at hY
          subst hY
          clear hf hS
          simp only [rtellR] at hT
          simp -implicitDefEqProofs (maxSteps := 4000000) (disch := omega) only [go_sem, go_sem_proc, dr, Nat.min_def, ↓reduceIte, hT, List.length_cons, List.getElem?_cons_zero, List.length_map, hjn']
        | some t =>
          obtain ⟨f1, f2, f3, _⟩ := hf t hR
          rw [hR] at hT hY
          simp only [rtellR] at hT
          have hq := toU8_beq f1 h8
          rw [List.map_cons] at hq
          by_cases hlen : L.length = n
          · have hln : ((L.length : Int) = (n : Int)) = True := eq_true (by omega)
            by_cases htb : t = 1 :: zs
            · rw [decide_eq_true htb] at hq
              cases nums with
              | true =>
                rw [if_pos ⟨rfl, by rw [htb], hlen, .inl rfl⟩] at hY
                subst hY
                clear hf hS htb
                simp -implicitDefEqProofs (maxSteps := 4000000) (disch := omega) only [go_sem, go_sem_proc, dr, Nat.min_def, ↓reduceIte, hT, hln, hq, List.length_cons, List.getElem?_cons_zero, List.length_map, hjn']
                first | done | ((repeat' split) <;> (change _ = true; kernel_rfl))
              | false =>
                cases hsh : shortO L with
                | true =>
                  rw [if_pos ⟨rfl, by rw [htb], hlen, .inr hsh⟩] at hY
                  subst hY
                  rw [hsh] at hS
                  clear hf htb
                  simp -implicitDefEqProofs (maxSteps := 4000000) (disch := omega) only [go_sem, go_sem_proc, dr, Nat.min_def, ↓reduceIte, hT, hln, hq, hS, List.length_cons, List.getElem?_cons_zero, List.length_map, hjn']
                  first | done | ((repeat' split) <;> (change _ = true; kernel_rfl))
                | false =>
                  rw [if_neg (by rintro ⟨_, _, _, h | h⟩; cases h; rw [hsh] at h; cases h)] at hY
                  subst hY
                  rw [hsh] at hS
                  clear hf htb
                  simp -implicitDefEqProofs (maxSteps := 4000000) (disch := omega) only [go_sem, go_sem_proc, dr, Nat.min_def, ↓reduceIte, hT, hln, hq, hS, List.length_cons, List.getElem?_cons_zero, List.length_map, hjn']
                  first | done | ((repeat' split) <;> (change _ = true; kernel_rfl))
            · rw [if_neg (by rintro ⟨_, h, _⟩; injection h with h; exact htb h)] at hY
              subst hY
              rw [decide_eq_false htb] at hq
              clear hf hS htb
              simp -implicitDefEqProofs (maxSteps := 4000000) (disch := omega) only [go_sem, go_sem_proc, dr, Nat.min_def, ↓reduceIte, hT, hln, hq, List.length_cons, List.getElem?_cons_zero, List.length_map, hjn']
              first | done | ((repeat' split) <;> (change _ = true; kernel_rfl))
          · rw [if_neg (by rintro ⟨_, _, h, _⟩; exact hlen h)] at hY
            subst hY
            have hln : ((L.length : Int) = (n : Int)) = False := eq_false (by omega)
            clear hf hS hq hlen
            simp -implicitDefEqProofs (maxSteps := 4000000) (disch := omega) only [go_sem, go_sem_proc, dr, Nat.min_def, ↓reduceIte, hT, hln, List.length_cons, List.getElem?_cons_zero, List.length_map, hjn']
            first | done | ((repeat' split) <;> (change _ = true; kernel_rfl))
end Go.Proofs.Ytmaehmacngldbaa.D
