/- One form: several, and a predicate's. -/
import Derived.Test.YtjhdickfkpcccaaNorm3
namespace Go.Proofs.Ytjhdickfkpcccaa.D
open Go Go.Den
set_option linter.unusedSimpArgs false
set_option linter.unusedVariables false
set_option maxRecDepth 20000
set_option maxHeartbeats 4000000
def listN (all : Bool) (xs : List (Al × Bool)) : Al × Bool := xs.foldl (if all then bothN else eitherN) (if all then ([(true, [])], true) else ([], true))
def notP (p : Prd) : Prd := .mk 6 0 0 valZ false [p.still]
/-- a predicate's form, and that of what is not it -/
def two (k c o : Int) (v : Val) (n : Bool) (l : List Prd) (xs : List ((Al × Bool) × (Al × Bool))) : (Al × Bool) × (Al × Bool) :=
  if k = 1 then (([(true, [])], true), ([], true))
  else if k = 2 then (([(false, [(Prd.mk 2 c o v n l).still])], true), ([(false, [(Prd.mk 2 c (otherN o) v n l).still])], true))
  else if k = 3 then (([(false, [(Prd.mk 3 c o v n l).still])], true), ([(false, [(notP (Prd.mk 3 c o v n l)).still])], true))
  else if k = 4 then (listN true (xs.map (·.1)), listN false (xs.map (·.2)))
  else if k = 5 then (listN false (xs.map (·.1)), listN true (xs.map (·.2)))
  else if k = 6 then (match xs with | [] => (([], false), ([], false)) | x :: _ => (x.2, x.1))
  else (([], false), ([], false))
mutual
def form2 : Prd → (Al × Bool) × (Al × Bool)
  | .mk k c o v n l => two k c o v n l (forms2 l)
def forms2 : List Prd → List ((Al × Bool) × (Al × Bool))
  | [] => []
  | p :: r => form2 p :: forms2 r
end
theorem forms2_map (l : List Prd) : forms2 l = l.map form2 := by
  induction l with
  | nil => rfl
  | cons p r ih => rw [forms2, ih, List.map_cons]
theorem form2_mk (k c o : Int) (v : Val) (n : Bool) (l : List Prd) : form2 (Prd.mk k c o v n l) = two k c o v n l (l.map form2) := by
  rw [form2, forms2_map]
def formN (not : Bool) (p : Prd) : Al × Bool := if not then (form2 p).2 else (form2 p).1
mutual
def cnt : Prd → Nat
  | .mk _ _ _ _ _ l => 1 + cnts l
def cnts : List Prd → Nat
  | [] => 0
  | p :: r => cnt p + cnts r
end
structure Gd (n : Nat) (x : Al × Bool) : Prop where
  len : x.1.length ≤ n
  ok : x.2 = true → ∀ c ∈ x.1, c.2.length ≤ 32
  sm : ∀ c ∈ x.1, ∀ q ∈ c.2, Sm q
theorem Gd.mono {n m : Nat} {x : Al × Bool} (h : Gd n x) (hm : n ≤ m) : Gd m x := ⟨Nat.le_trans h.len hm, h.ok, h.sm⟩
theorem Gd.either {n m : Nat} {a b : Al × Bool} (ha : Gd n a) (hb : Gd m b) : Gd (n + m) (eitherN a b) := by
  refine ⟨?_, fun h c hc => ?_, fun c hc => ?_⟩
  · show (a.1 ++ b.1).length ≤ n + m
    rw [List.length_append]; have := ha.len; have := hb.len; omega
  · simp only [eitherN, Bool.and_eq_true] at h
    rcases List.mem_append.1 hc with hc | hc
    · exact ha.ok h.1.1 c hc
    · exact hb.ok h.1.2 c hc
  · rcases List.mem_append.1 hc with hc | hc
    · exact ha.sm c hc
    · exact hb.sm c hc
theorem Gd.both {n m : Nat} {a b : Al × Bool} (ha : Gd n a) (hb : Gd m b) : Gd 32 (bothN a b) := by
  unfold bothN
  split
  · rename_i h
    simp only [Bool.and_eq_true, decide_eq_true_eq] at h
    refine ⟨?_, fun h c hc => ?_, fun c hc q hq => ?_⟩
    · show (crossN a.1 b.1).length ≤ 32
      rw [crossN_len]
      have := h.2
      rw [← Int.natCast_mul] at this
      omega
    · simp only [okLen, List.all_eq_true, decide_eq_true_eq] at h
      have := h c hc
      omega
    · simp only [crossN, List.mem_flatMap, List.mem_map] at hc
      obtain ⟨x, hx, y, hy, rfl⟩ := hc
      rcases List.mem_append.1 hq with hq | hq
      · exact ha.sm x hx q hq
      · exact hb.sm y hy q hq
  · exact ⟨Nat.zero_le _, fun h => (by cases h), fun c hc => (by cases hc)⟩
theorem Gd.one {p : Prd} (h : Sm p) : Gd 1 ([(false, [p])], true) := by
  refine ⟨by simp, fun _ c hc => ?_, fun c hc q hq => ?_⟩
  · simp at hc; subst hc; simp
  · simp at hc; subst hc; simp at hq; subst hq; exact h
theorem Gd.always : Gd 1 ([(true, [])], true) := by
  refine ⟨by simp, fun _ c hc => ?_, fun c hc q hq => ?_⟩
  · simp at hc; subst hc; simp
  · simp at hc; subst hc; cases hq
theorem Gd.nil (b : Bool) : Gd 0 ([], b) := ⟨by simp, fun _ c hc => (by cases hc), fun c hc => (by cases hc)⟩
theorem listN_snoc (all : Bool) (xs : List (Al × Bool)) (y : Al × Bool) : listN all (xs ++ [y]) = if all then bothN (listN all xs) y else eitherN (listN all xs) y := by
  unfold listN; rw [List.foldl_append]; cases all <;> rfl
theorem Sm_still {p : Prd} (h : Sm p) : Sm p.still := by
  induction p using Prd.ind with
  | h k c o v n l ih =>
    obtain ⟨hb, hl, hq⟩ := h
    rw [still_mk]
    refine .mk hb (by rw [List.length_map]; exact hl) fun q hm => ?_
    obtain ⟨p, hp, rfl⟩ := List.mem_map.1 hm
    exact ih p hp (hq p hp)
theorem notP_Sm {p : Prd} (h : Sm p) : Sm (notP p) := .mk (by simp [bz, valZ]) (by simp) fun q hq => by
  simp at hq; subst hq; exact Sm_still h
theorem cnt_mk (k c o : Int) (v : Val) (n : Bool) (l : List Prd) : cnt (Prd.mk k c o v n l) = 1 + cnts l := by rw [cnt]
theorem cnts_cons (p : Prd) (r : List Prd) : cnts (p :: r) = cnt p + cnts r := by rw [cnts]
theorem cnts_nil : cnts [] = 0 := by rw [cnts]
theorem cnts_append (a b : List Prd) : cnts (a ++ b) = cnts a + cnts b := by
  induction a with
  | nil => simp [cnts_nil]
  | cons p r ih => rw [List.cons_append, cnts_cons, cnts_cons, ih]; omega
theorem cnts_mem {l : List Prd} {q : Prd} (h : q ∈ l) : cnt q ≤ cnts l := by
  obtain ⟨a, b, rfl⟩ := List.append_of_mem h
  rw [cnts_append, cnts_cons]; omega
theorem Gd.fold {all : Bool} {f : Prd → Al × Bool} : ∀ (l : List Prd) (n : Nat) (acc : Al × Bool), 32 ≤ n → Gd n acc → (∀ q ∈ l, Gd (33 * cnt q) (f q)) → Gd (n + 33 * cnts l) ((l.map f).foldl (if all then bothN else eitherN) acc) := by
  intro l
  induction l with
  | nil => intro n acc hn h _; exact h.mono (by omega)
  | cons q r ih =>
    intro n acc hn h hq
    rw [List.map_cons, List.foldl_cons, cnts_cons]
    have h1 := hq q List.mem_cons_self
    have h2 := fun x hx => hq x (List.mem_cons_of_mem _ hx)
    cases all
    · exact (ih (n + 33 * cnt q) _ (by omega) (h.either h1) h2).mono (by omega)
    · exact (ih n _ hn ((h.both h1).mono hn) h2).mono (by omega)
theorem Gd.list {all : Bool} {f : Prd → Al × Bool} (l : List Prd) (h : ∀ q ∈ l, Gd (33 * cnt q) (f q)) : Gd (33 * (1 + cnts l)) (listN all (l.map f)) := by
  unfold listN
  refine (Gd.fold (all := all) l 32 _ (Nat.le_refl _) ?_ h).mono (by omega)
  cases all
  · exact (Gd.nil true).mono (by omega)
  · exact Gd.always.mono (by omega)
theorem form_mk (not : Bool) (k c o : Int) (v : Val) (n : Bool) (l : List Prd) : formN not (.mk k c o v n l) =
    if k = 1 then (if not then ([], true) else ([(true, [])], true))
    else if k = 2 then ([(false, [(Prd.mk 2 c (if not then otherN o else o) v n l).still])], true)
    else if k = 3 then ([(false, [(if not then notP (Prd.mk 3 c o v n l) else Prd.mk 3 c o v n l).still])], true)
    else if k = 4 then listN (!not) (l.map (formN not))
    else if k = 5 then listN not (l.map (formN not))
    else if k = 6 then (match l with | [] => ([], false) | q :: _ => formN (!not) q)
    else ([], false) := by
  have e : formN not = fun p => if not then (form2 p).2 else (form2 p).1 := rfl
  rw [e]
  simp only []
  rw [form2_mk]
  unfold two
  simp only [List.map_map]
  by_cases h1 : k = 1
  · simp only [if_pos h1]
  by_cases h2 : k = 2
  · simp only [if_neg h1, if_pos h2]; cases not <;> rfl
  by_cases h3 : k = 3
  · simp only [if_neg h1, if_neg h2, if_pos h3]; cases not <;> rfl
  by_cases h4 : k = 4
  · simp only [if_neg h1, if_neg h2, if_neg h3, if_pos h4]; cases not <;> rfl
  by_cases h5 : k = 5
  · simp only [if_neg h1, if_neg h2, if_neg h3, if_neg h4, if_pos h5]; cases not <;> rfl
  by_cases h6 : k = 6
  · simp only [if_neg h1, if_neg h2, if_neg h3, if_neg h4, if_neg h5, if_pos h6]
    cases l <;> cases not <;> rfl
  · simp only [if_neg h1, if_neg h2, if_neg h3, if_neg h4, if_neg h5, if_neg h6]; cases not <;> rfl
theorem form_Gd {p : Prd} (h : Sm p) (not : Bool) : Gd (33 * cnt p) (formN not p) := by
  induction p using Prd.ind generalizing not with
  | h k c o v n l ih =>
    obtain ⟨hb, hl, hq⟩ := h
    have ih := fun q hm => ih q hm (hq q hm)
    rw [form_mk, cnt_mk]
    split
    · cases not
      · exact Gd.always.mono (by omega)
      · exact (Gd.nil _).mono (by omega)
    split
    · exact (Gd.one (Sm_still (.mk hb hl hq))).mono (by omega)
    split
    · cases not
      · exact (Gd.one (Sm_still (.mk hb hl hq))).mono (by omega)
      · exact (Gd.one (Sm_still (notP_Sm (.mk hb hl hq)))).mono (by omega)
    split
    · exact Gd.list l fun q hq => ih q hq not
    split
    · exact Gd.list l fun q hq => ih q hq not
    split
    · cases l with
      | nil => exact (Gd.nil _).mono (by omega)
      | cons q r =>
        rw [cnts_cons]
        exact (ih q List.mem_cons_self _).mono (by omega)
    · exact (Gd.nil _).mono (by omega)
end Go.Proofs.Ytjhdickfkpcccaa.D
