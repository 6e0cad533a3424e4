/- Ops of numbers are right. -/
import Derived.Test.YtgbeijemcojnpaaExpr8
namespace Go.Proofs.Ytgbeijemcojnpaa.D
open Go Go.Den
set_option linter.unusedSimpArgs false
set_option linter.unusedVariables false
set_option maxRecDepth 20000
set_option maxHeartbeats 8000000
theorem Sm_Sl {p : Prd} (h : Sm p) : Sl p := by
  induction p using Prd.ind with
  | h k c o v n l ih =>
    obtain ⟨hb, hl, hq⟩ := h
    exact .mk (by omega) (by omega) fun q hm => ih q hm (hq q hm)
theorem kindAt_get {s : List Col} {i : Nat} {q : Col} (h : s[i]? = some q) : kindAt s (i : Int) = q.kind := by
  unfold kindAt
  rw [Int.toNat_natCast, List.getD_eq_getElem?_getD, h]
  rfl
theorem inB_nat {s : List Col} {i : Nat} (h : i < s.length) : inB s (i : Int) = true := by
  unfold inB; simp; omega
theorem oneB_leaf (m : Int) (n k : Int) : rightB (schemaN m) (leafN (schemaN m) n k) = true ∧ depP (leafN (schemaN m) n k) = 1 ∧ cntP (leafN (schemaN m) n k) = 1 := by
  have hc := colAt_lt (schemaN_pos m) n
  obtain ⟨q, hq, hqm, _⟩ := take_get hc
  have hk := schemaN_kind hqm
  have hka := kindAt_get hq
  unfold leafN
  split
  · refine ⟨?_, rfl, rfl⟩
    rw [right_node]
    rfl
  · split
    · refine ⟨?_, rfl, rfl⟩
      rw [right_node]
      unfold oneB
      rw [inB_nat hc]
      rfl
    · refine ⟨?_, rfl, rfl⟩
      rw [right_node]
      unfold oneB
      rw [inB_nat hc, hka]
      have o1 : 1 ≤ n / 131072 % 256 % 6 + 1 := by omega
      have o2 : n / 131072 % 256 % 6 + 1 ≤ 6 := by omega
      by_cases c0 : colAt (schemaN m) n = 0
      · rw [if_pos c0]
        rw [c0, schemaN_zero] at hq
        cases hq
        simp [o1, o2, isV, bz, keyCol, rightsB]
      · rw [if_neg c0]
        have hg : (schemaN m).getD (colAt (schemaN m) n) keyCol = q := by rw [List.getD_eq_getElem?_getD, hq]; rfl
        rw [hg]
        have hv := valueN_isV (c := bare0 q) hk (n / 2048)
        have hv2 := valueN_kind (bare0 q) (n / 2048)
        have hv3 : (valueN (bare0 q) (n / 2048)).null = false := by
          unfold valueN
          rw [if_neg (by simp [bare0])]
          split <;> rfl
        rw [hv, hv2, hv3]
        simp [o1, o2, bare0, rightsB]
theorem leafN_nil (s : List Col) (n k : Int) : (leafN s n k).nil = true := by
  unfold leafN
  split
  · rfl
  · split <;> rfl
theorem lists_le {B D : Int} (g : Nat → Prd) (hg : ∀ j, depP (g j) ≤ D ∧ cntP (g j) ≤ B) (hD : 0 ≤ D) : ∀ l : List Nat, depL (l.map g) ≤ D ∧ cntL (l.map g) ≤ l.length * B
  | [] => ⟨by rw [List.map_nil, depL]; exact hD, by rw [List.map_nil, cntL]; simp⟩
  | j :: r => by
    have h1 := hg j
    have h2 := lists_le g hg hD r
    rw [List.map_cons, depL, cntL, List.length_cons]
    refine ⟨by split <;> omega, ?_⟩
    have : ((r.length + 1 : Nat) : Int) * B = (r.length : Int) * B + B := by push_cast; rw [Int.add_mul]; omega
    rw [this]
    omega
theorem rights_map {s : List Col} (g : Nat → Prd) (hg : ∀ j, rightB s (g j) = true) : ∀ l : List Nat, rightsB s (l.map g) = true
  | [] => rfl
  | j :: r => by rw [List.map_cons, rightsB, hg, rights_map g hg r]; rfl
theorem predN_right (m : Int) (l : List Int) : ∀ (d i : Nat), rightB (schemaN m) (predN (schemaN m) l d i) = true ∧ depP (predN (schemaN m) l d i) ≤ d + 1 ∧ cntP (predN (schemaN m) l d i) ≤ 4 ^ d ∧ (predN (schemaN m) l d i).nil = true
  | 0, i => by
    rw [predN]
    obtain ⟨h1, h2, h3⟩ := oneB_leaf m (nAt l i) (if 4 < nAt l i % 8 then nAt l i % 8 - 4 else nAt l i % 8)
    exact ⟨h1, by rw [h2]; simp, by rw [h3]; simp, leafN_nil _ _ _⟩
  | 1, i => by
    rw [predN]
    obtain ⟨h1, h2, h3⟩ := oneB_leaf m (nAt l i) (if 4 < nAt l i % 8 then nAt l i % 8 - 4 else nAt l i % 8)
    exact ⟨h1, by rw [h2]; simp, by rw [h3]; simp, leafN_nil _ _ _⟩
  | d + 2, i => by
    have ih := predN_right m l (d + 1)
    have hp : (1 : Int) ≤ 4 ^ (d + 1) := Int.pow_pos (by decide)
    have hpow : (4 : Int) ^ (d + 2) = 4 * 4 ^ (d + 1) := by rw [Int.pow_succ]; omega
    rw [predN]
    split
    · rename_i hk
      have hl : (nAt l i / 2048 % 4).toNat ≤ 3 := by omega
      obtain ⟨a1, a2⟩ := lists_le (B := 4 ^ (d + 1)) (D := (d : Int) + 2) (fun j => predN (schemaN m) l (d + 1) (3 * i + j + 1)) (fun j => ⟨by have := (ih (3 * i + j + 1)).2.1; push_cast at this; omega, (ih _).2.2.1⟩) (by omega) (List.range (nAt l i / 2048 % 4).toNat)
      have a3 := rights_map (s := schemaN m) (fun j => predN (schemaN m) l (d + 1) (3 * i + j + 1)) (fun j => (ih _).1) (List.range (nAt l i / 2048 % 4).toNat)
      refine ⟨?_, ?_, ?_, rfl⟩
      · rw [right_node, a3]
        unfold oneB
        have hlen : ((List.range (nAt l i / 2048 % 4).toNat).map fun j => predN (schemaN m) l (d + 1) (3 * i + j + 1)).length ≤ 8 := by simp; omega
        rw [decide_eq_true hlen]
        rcases hk with hk | hk
        · rw [if_neg (by omega), if_neg (by omega), if_neg (by omega), if_pos (by omega)]; rfl
        · rw [if_neg (by omega), if_neg (by omega), if_neg (by omega), if_neg (by omega), if_pos (by omega)]; rfl
      · rw [depP]; push_cast; omega
      · rw [cntP, hpow]
        rw [List.length_range] at a2
        have hm : ((nAt l i / 2048 % 4).toNat : Int) * 4 ^ (d + 1) ≤ 3 * 4 ^ (d + 1) := Int.mul_le_mul_of_nonneg_right (by omega) (by omega)
        omega
    · split
      · have h1 := ih (3 * i + 1)
        refine ⟨?_, ?_, ?_, rfl⟩
        · rw [right_node, rightsB, h1.1]
          rfl
        · rw [depP, depL, depL]
          have := h1.2.1
          push_cast at this ⊢
          split <;> omega
        · rw [cntP, cntL, cntL, hpow]
          have := h1.2.2.1
          omega
      · obtain ⟨h1, h2, h3⟩ := oneB_leaf m (nAt l i) (nAt l i % 8)
        exact ⟨h1, by rw [h2]; push_cast; omega, by rw [h3, hpow]; omega, leafN_nil _ _ _⟩
/-- a predicate that may stand in an op of numbers -/
structure PredOk (s : List Col) (p : Prd) : Prop where
  ok : okP s p = true
  sl : Sl p
  nil : p.nil = true
theorem predN_ok (m : Int) (l : List Int) (i : Nat) : PredOk (schemaN m) (predN (schemaN m) l 3 i) := by
  obtain ⟨h1, h2, h3, h4⟩ := predN_right m l 3 i
  refine ⟨?_, Sm_Sl (predN_Sm _ _ _ _), h4⟩
  rw [okP_plain, h1, decide_eq_true (by push_cast at h2; omega), decide_eq_true (by simpa using h3)]
  rfl
theorem keyP_ok (m x : Int) : PredOk (schemaN m) (keyP x) := by
  refine ⟨?_, .mk (by simp [bz]) (by simp) (by simp), rfl⟩
  rw [okP_plain]
  have hr : rightB (schemaN m) (keyP x) = true := by
    unfold keyP
    rw [right_node]
    unfold oneB
    have hi : inB (schemaN m) 0 = true := inB_nat (i := 0) (schemaN_pos m)
    have hk : kindAt (schemaN m) 0 = 1 := kindAt_get (i := 0) (schemaN_zero m)
    rw [hi, hk]
    rfl
  rw [hr]
  rfl
theorem zP_same : sameZ zP = true := rfl
theorem GenF_ok {m : Int} {p : Prd} {o : OpN} (h : GenF (schemaN m) p o) (hp : PredOk (schemaN m) p) : exprB (schemaN m) o = true ∧ OpOk o ∧ OpBy o := by
  have hz : Sl zP := .mk (by simp [valZ, bz]) (by simp) (by simp)
  have hs := schemaN_length m
  have hin0 : inB (schemaN m) 0 = true := inB_nat (i := 0) (schemaN_pos m)
  obtain ⟨hok, hsl, hnil⟩ := hp
  have hlk : (lookP (schemaN m) p 5 0).1 = true := by rw [look_ok]; exact hok
  cases h with
  | ins x =>
    refine ⟨?_, ⟨hz, by rw [rowN_length]; omega, by simp, by simp, by simp⟩, ⟨fun v hv => by have := rowN_R1 _ _ v hv; omega, by simp⟩⟩
    unfold exprB
    rw [if_pos rfl, fits_rowN]
    simp [bareO, zP_same]
  | upd c q x ad hc hq had =>
    have hcl := (List.getElem?_eq_some_iff.1 hq).1
    have hk := schemaN_kind (List.mem_of_getElem? hq)
    refine ⟨?_, ⟨hsl, by simp, by simp, by simp, by simp⟩, ⟨by simp, fun y hy => ?_⟩⟩
    · unfold exprB
      rw [if_neg (by simp), if_pos rfl]
      dsimp only
      rw [hlk]
      have hset : setB (schemaN m) ⟨c, ad, valueN q x⟩ = true := by
        rw [setB_in (schemaN m) ⟨c, ad, valueN q x⟩ q c rfl (by simp; omega) hcl hq]
        have hh := valueN_holds hk x
        rw [holds_ref] at hh
        simp only [Bool.and_eq_true] at hh
        rw [hh.1]
        cases ad with
        | false => simpa using hh.2
        | true => obtain ⟨e1, e2⟩ := had rfl; rw [e1, e2]; rfl
      simp [bareO, setsB, setsR, hset]
    · simp only [List.mem_singleton] at hy
      subst hy
      have := valueN_bytes q x
      dsimp only
      omega
  | del =>
    refine ⟨?_, ⟨hsl, by simp, by simp, by simp, by simp⟩, ⟨by simp, by simp⟩⟩
    unfold exprB
    rw [if_neg (by simp), if_neg (by simp), if_pos rfl]
    dsimp only
    rw [hlk]
    simp [bareO]
  | scan c hc =>
    refine ⟨?_, ⟨hsl, by simp, by simp, by simp, by simp⟩, ⟨by simp, by simp⟩⟩
    unfold exprB
    rw [if_neg (by simp), if_neg (by simp), if_neg (by simp), if_pos rfl]
    dsimp only
    rw [hlk]
    simp [bareO, colsB, inB_nat hc, hin0]
  | agg c g k hc hg hk =>
    refine ⟨?_, ⟨hsl, by simp, by simp, by simp, by simp⟩, ⟨by simp, by simp⟩⟩
    unfold exprB
    rw [if_neg (by simp), if_neg (by simp), if_neg (by simp), if_neg (by simp), if_pos rfl]
    dsimp only
    rw [hlk]
    have hk0 : kindAt (schemaN m) 0 = 1 := kindAt_get (i := 0) (schemaN_zero m)
    have hg' : (decide (g = -1) || inB (schemaN m) g) = true := by
      rcases hg with rfl | rfl
      · rw [inB_nat hc]; simp
      · rfl
    rw [hg']
    rcases hk with rfl | rfl <;> simp [bareO, aggsB, aggB, inB_nat hc, hin0, hk0]
  | roll =>
    refine ⟨?_, ⟨hz, by simp, by simp, by simp, by simp⟩, ⟨by simp, by simp⟩⟩
    unfold exprB
    rw [if_neg (by simp), if_neg (by simp), if_neg (by simp), if_neg (by simp), if_neg (by simp), if_pos rfl]
    simp [bareO, zP_same]
end Go.Proofs.Ytgbeijemcojnpaa.D
