/- NormKeys: what the law comes to. -/
import Derived.Test.YtjhdickfkpcccaaNorm7
import Derived.Test.YtjhdickfkpcccaaPredGen
namespace Go.Proofs.Ytjhdickfkpcccaa.D
open Go Go.Den
set_option linter.unusedSimpArgs false
set_option linter.unusedVariables false
set_option maxRecDepth 20000
set_option maxHeartbeats 8000000
def cmp0 (o key : Int) : Prd := .mk 2 0 o ⟨false, 1, key, none⟩ true []
def tru : Prd := .mk 1 0 0 valZ true []
theorem cmp0_pv (o key : Int) : (cmp0 o key).pv = [.int .i64 2, .int .i64 0, .int .i64 o, .bool false, .int .i64 1, .int .i64 key, .nils, .nils] := by rw [cmp0, pv_mk]; rfl
theorem tru_pv : tru.pv = [.int .i64 1, .int .i64 0, .int .i64 0, .bool false, .int .i64 0, .int .i64 0, .nils, .nils] := by rw [tru, pv_mk]; rfl
theorem cmp0_Sm (o key : Int) : Sm (cmp0 o key) := .mk (by simp [bz]) (by simp) (by simp)
theorem tru_Sm : Sm tru := .mk (by simp [bz, valZ]) (by simp) (by simp)
structure Fine (m n : Nat) (x : Al × Bool) : Prop where
  ok : x.2 = true
  len : x.1.length ≤ m
  each : ∀ c ∈ x.1, c.2.length ≤ n
theorem Fine.mono {m n m' n' : Nat} {x : Al × Bool} (h : Fine m n x) (h1 : m ≤ m') (h2 : n ≤ n') : Fine m' n' x := ⟨h.ok, Nat.le_trans h.len h1, fun c hc => Nat.le_trans (h.each c hc) h2⟩
theorem Fine.one (p : Prd) : Fine 1 1 ([(false, [p])], true) := ⟨rfl, by simp, fun c hc => by simp at hc; subst hc; simp⟩
theorem Fine.always : Fine 1 0 ([(true, [])], true) := ⟨rfl, by simp, fun c hc => by simp at hc; subst hc; simp⟩
theorem Fine.nil : Fine 0 0 ([], true) := ⟨rfl, by simp, fun c hc => by cases hc⟩
theorem Fine.either {m n m' n' : Nat} {a b : Al × Bool} (ha : Fine m n a) (hb : Fine m' n' b) (h : m + m' ≤ 32) : Fine (m + m') (max n n') (eitherN a b) := by
  have h1 := ha.len
  have h2 := hb.len
  refine ⟨?_, ?_, fun c hc => ?_⟩
  · simp only [eitherN, ha.ok, hb.ok, Bool.and_self, Bool.true_and, decide_eq_true_eq, List.length_append]; omega
  · simp only [eitherN, List.length_append]; omega
  · rcases List.mem_append.1 hc with hc | hc
    · have := ha.each c hc; omega
    · have := hb.each c hc; omega
theorem Fine.both {m n m' n' : Nat} {a b : Al × Bool} (ha : Fine m n a) (hb : Fine m' n' b) (h : m * m' ≤ 32) (h' : n + n' ≤ 32) : Fine (m * m') (n + n') (bothN a b) := by
  have h3 : a.1.length * b.1.length ≤ m * m' := Nat.mul_le_mul ha.len hb.len
  have h4 : (a.1.length : Int) * b.1.length ≤ 32 := by rw [← Int.natCast_mul]; omega
  have h5 : ∀ c ∈ crossN a.1 b.1, c.2.length ≤ n + n' := fun c hc => by
    simp only [crossN, List.mem_flatMap, List.mem_map] at hc
    obtain ⟨x, hx, y, hy, rfl⟩ := hc
    have := ha.each x hx
    have := hb.each y hy
    rw [List.length_append]; omega
  have e : bothN a b = (crossN a.1 b.1, okLen (crossN a.1 b.1)) := by unfold bothN; rw [if_pos (by simp [ha.ok, hb.ok, h4])]
  rw [e]
  refine ⟨?_, ?_, h5⟩
  · simp only [okLen, List.all_eq_true, decide_eq_true_eq]
    intro c hc
    have := h5 c hc
    omega
  · show (crossN a.1 b.1).length ≤ _
    rw [crossN_len]; exact h3
theorem Fine.list {all : Bool} {f : Prd → Al × Bool} {l : List Prd} (hl : l.length ≤ 3) (h : ∀ q ∈ l, Fine 1 1 (f q)) : Fine 3 3 (listN all (l.map f)) := by
  unfold listN
  rcases l with _ | ⟨a, _ | ⟨b, _ | ⟨c, _ | ⟨d, r⟩⟩⟩⟩
  · cases all
    · exact Fine.nil.mono (by omega) (by omega)
    · exact Fine.always.mono (by omega) (by omega)
  · have ha := h a (by simp)
    cases all
    · exact (Fine.nil.either ha (by omega)).mono (by omega) (by omega)
    · exact (Fine.always.both ha (by omega) (by omega)).mono (by omega) (by omega)
  · have ha := h a (by simp)
    have hb := h b (by simp)
    cases all
    · exact ((Fine.nil.either ha (by omega)).either hb (by omega)).mono (by omega) (by omega)
    · exact ((Fine.always.both ha (by omega) (by omega)).both hb (by omega) (by omega)).mono (by omega) (by omega)
  · have ha := h a (by simp)
    have hb := h b (by simp)
    have hc := h c (by simp)
    cases all
    · exact (((Fine.nil.either ha (by omega)).either hb (by omega)).either hc (by omega)).mono (by omega) (by omega)
    · exact (((Fine.always.both ha (by omega) (by omega)).both hb (by omega) (by omega)).both hc (by omega) (by omega)).mono (by omega) (by omega)
  · simp only [List.length_cons] at hl; omega
theorem leafN_Fine (s : List Col) (n k : Int) (b : Bool) : Fine 1 1 (formN b (leafN s n k)) := by
  unfold leafN
  split
  · rw [form_mk, if_pos rfl]
    cases b
    · exact Fine.always.mono (by omega) (by omega)
    · exact Fine.nil.mono (by omega) (by omega)
  split
  · rw [form_mk, if_neg (by decide), if_neg (by decide), if_pos rfl]
    exact Fine.one _
  · rw [form_mk, if_neg (by decide), if_pos rfl]
    exact Fine.one _
theorem predN_one (s : List Col) (l : List Int) (i : Nat) (b : Bool) : Fine 1 1 (formN b (predN s l 1 i)) := by rw [predN]; exact leafN_Fine _ _ _ _
theorem predN_two (s : List Col) (l : List Int) (i : Nat) : Fine 3 3 (formN false (predN s l 2 i)) := by
  rw [predN]
  split
  · rename_i h
    have hl : ((List.range (nAt l i / 2048 % 4).toNat).map fun j => predN s l (0 + 1) (3 * i + j + 1)).length ≤ 3 := by
      have := Int.emod_lt_of_pos (nAt l i / 2048) (b := 4) (by decide)
      simp; omega
    have hq : ∀ b, ∀ q ∈ ((List.range (nAt l i / 2048 % 4).toNat).map fun j => predN s l (0 + 1) (3 * i + j + 1)), Fine 1 1 (formN b q) := fun b q hq => by
      obtain ⟨j, _, rfl⟩ := List.mem_map.1 hq
      exact predN_one s l _ b
    rcases h with h | h
    · rw [h, form_mk, if_neg (by decide), if_neg (by decide), if_neg (by decide), if_pos (by decide)]
      exact Fine.list hl (hq _)
    · rw [h, form_mk, if_neg (by decide), if_neg (by decide), if_neg (by decide), if_neg (by decide), if_pos (by decide)]
      exact Fine.list hl (hq _)
  split
  · rw [form_mk, if_neg (by decide), if_neg (by decide), if_neg (by decide), if_neg (by decide), if_neg (by decide), if_pos rfl]
    exact (predN_one s l _ _).mono (by omega) (by omega)
  · exact (leafN_Fine _ _ _ _).mono (by omega) (by omega)
/-- how many a predicate of numbers has -/
theorem cnt_leaf (s : List Col) (n k : Int) : cnt (leafN s n k) = 1 := by
  unfold leafN
  split
  · rw [cnt_mk, cnts_nil]
  split
  · rw [cnt_mk, cnts_nil]
  · rw [cnt_mk, cnts_nil]
theorem cnts_le {l : List Prd} {n : Nat} (h : ∀ q ∈ l, cnt q ≤ n) : cnts l ≤ l.length * n := by
  induction l with
  | nil => rw [cnts_nil]; omega
  | cons a r ih =>
    rw [cnts_cons, List.length_cons, Nat.succ_mul]
    have := h a List.mem_cons_self
    have := ih fun q hq => h q (List.mem_cons_of_mem _ hq)
    omega
theorem cnt_predN (s : List Col) (l : List Int) : ∀ (d i : Nat), cnt (predN s l d i) ≤ 4 ^ d
  | 0, i => by rw [predN, cnt_leaf]; decide
  | 1, i => by rw [predN, cnt_leaf]; decide
  | d + 2, i => by
    have h4 : 4 ^ (d + 2) = 4 * 4 ^ (d + 1) := by rw [Nat.pow_succ]; omega
    have h1 : 1 ≤ 4 ^ (d + 1) := Nat.pow_pos (by decide)
    rw [predN]
    split
    · rw [cnt_mk]
      have h := cnts_le (l := (List.range (nAt l i / 2048 % 4).toNat).map fun j => predN s l (d + 1) (3 * i + j + 1)) (n := 4 ^ (d + 1)) fun q hq => by
        obtain ⟨j, _, rfl⟩ := List.mem_map.1 hq
        exact cnt_predN s l (d + 1) _
      have h3 : ((List.range (nAt l i / 2048 % 4).toNat).map fun j => predN s l (d + 1) (3 * i + j + 1)).length ≤ 3 := by
        have := Int.emod_lt_of_pos (nAt l i / 2048) (b := 4) (by decide)
        simp; omega
      have h5 := Nat.mul_le_mul_right (4 ^ (d + 1)) h3
      omega
    split
    · have := cnt_predN s l (d + 1) (3 * i + 1)
      rw [cnt_mk, cnts_cons, cnts_nil]; omega
    · rw [cnt_leaf]; omega
end Go.Proofs.Ytjhdickfkpcccaa.D
