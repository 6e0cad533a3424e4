/- Den, part Zl: the order of values, and of rows, is one. No program in sight. -/
import Derived.Test.YtepofpmohiegpaaDenZk
namespace Go.Den
open Go
theorem cmpI_anti (a b : Int) : cmpI b a = -cmpI a b := by unfold cmpI; split <;> split <;> first | omega | (split <;> omega) | rfl
theorem cmpI_zero {a b : Int} : cmpI a b = 0 ↔ a = b := by
  unfold cmpI; split
  · constructor <;> intro h <;> omega
  · split <;> constructor <;> intro h <;> omega
theorem cmpI_trans {a b c : Int} (h : cmpI a b ≤ 0) (k : cmpI b c ≤ 0) : cmpI a c ≤ 0 := by
  unfold cmpI at *
  repeat (first | omega | split at h | split at k | split)
theorem cmpI_range (a b : Int) : -1 ≤ cmpI a b ∧ cmpI a b ≤ 1 := by
  unfold cmpI; split
  · omega
  · split <;> omega
theorem u8_tri (a b : UInt8) : a < b ∧ ¬ b < a ∧ a ≠ b ∨ a = b ∧ ¬ a < b ∧ ¬ b < a ∨ b < a ∧ ¬ a < b ∧ a ≠ b := by
  rcases Nat.lt_trichotomy a.toNat b.toNat with h | h | h
  · exact .inl ⟨h, by simp only [UInt8.lt_iff_toNat_lt]; omega, fun e => by rw [e] at h; omega⟩
  · have : a = b := UInt8.toNat_inj.1 h
    subst this
    exact .inr (.inl ⟨rfl, UInt8.lt_irrefl _, UInt8.lt_irrefl _⟩)
  · exact .inr (.inr ⟨h, by simp only [UInt8.lt_iff_toNat_lt]; omega, fun e => by rw [e] at h; omega⟩)
open Go.Lib (compareBytes)
theorem cb_anti : ∀ a b : List UInt8, compareBytes b a = -compareBytes a b
  | [], [] => rfl
  | [], _ :: _ => rfl
  | _ :: _, [] => rfl
  | x :: a, y :: b => by
    have ih := cb_anti a b
    simp only [compareBytes]
    rcases u8_tri x y with ⟨h1, h2, _⟩ | ⟨rfl, h1, _⟩ | ⟨h1, h2, _⟩
    · simp [h1, h2]
    · simp [h1, ih]
    · simp [h1, h2]
theorem cb_zero : ∀ {a b : List UInt8}, compareBytes a b = 0 ↔ a = b
  | [], [] => by simp [compareBytes]
  | [], _ :: _ => by simp [compareBytes]
  | _ :: _, [] => by simp [compareBytes]
  | x :: a, y :: b => by
    have ih := cb_zero (a := a) (b := b)
    simp only [compareBytes]
    rcases u8_tri x y with ⟨h1, h2, h3⟩ | ⟨rfl, h1, _⟩ | ⟨h1, h2, h3⟩
    · simp [h1, h3]
    · simp [h1, ih]
    · simp [h1, h2, h3]
theorem cb_range : ∀ a b : List UInt8, -1 ≤ compareBytes a b ∧ compareBytes a b ≤ 1
  | [], [] => by simp [compareBytes]
  | [], _ :: _ => by simp [compareBytes]
  | _ :: _, [] => by simp [compareBytes]
  | x :: a, y :: b => by
    have ih := cb_range a b
    simp only [compareBytes]
    split
    · omega
    · split
      · omega
      · exact ih
theorem cb_trans : ∀ {a b c : List UInt8}, compareBytes a b ≤ 0 → compareBytes b c ≤ 0 → compareBytes a c ≤ 0
  | [], _, [], _, _ => by simp [compareBytes]
  | [], _, _ :: _, _, _ => by simp [compareBytes]
  | _ :: _, [], _, h, _ => by simp [compareBytes] at h
  | _ :: _, _ :: _, [], _, k => by simp [compareBytes] at k
  | x :: a, y :: b, z :: c, h, k => by
    have ih := cb_trans (a := a) (b := b) (c := c)
    simp only [compareBytes] at h k ⊢
    rcases u8_tri x y with ⟨h1, h2, _⟩ | ⟨rfl, h1, _⟩ | ⟨h1, h2, _⟩
    · rcases u8_tri y z with ⟨k1, k2, _⟩ | ⟨rfl, k1, _⟩ | ⟨k1, k2, _⟩
      · have : x < z := UInt8.lt_trans h1 k1
        simp [this]
      · simp [h1]
      · simp [k1, k2] at k
    · rcases u8_tri x z with ⟨k1, k2, _⟩ | ⟨rfl, k1, _⟩ | ⟨k1, k2, _⟩
      · simp [k1]
      · simp only [k1, if_false, h1] at h k ⊢; exact ih h k
      · simp [k1, k2] at k
    · simp [h1, h2] at h
theorem cmpV_range (a b : Val) : -1 ≤ cmpV a b ∧ cmpV a b ≤ 1 := by
  unfold cmpV
  split
  · exact cmpI_range _ _
  · split
    · exact cmpI_range _ _
    · split
      · exact cb_range _ _
      · omega
theorem cmpV_nn {a b : Val} (ha : a.null = false) (hb : b.null = false) : cmpV a b = if a.kind = 1 then cmpI a.int b.int else if a.kind = 2 then compareBytes a.b b.b else 0 := by
  have e : cmpI (rankV a) (rankV b) = 0 := by simp [rankV, ha, hb, cmpI]
  unfold cmpV
  rw [if_neg (by simp [e, ha])]
theorem cmpV_tn {a b : Val} (ha : a.null = true) (hb : b.null = false) : cmpV a b = -1 := by
  unfold cmpV
  rw [if_pos (.inr ha)]
  simp [rankV, ha, hb, cmpI]
theorem cmpV_nt {a b : Val} (ha : a.null = false) (hb : b.null = true) : cmpV a b = 1 := by
  unfold cmpV
  have e : cmpI (rankV a) (rankV b) = 1 := by simp [rankV, ha, hb, cmpI]
  rw [if_pos (.inl (by simp [e])), e]
theorem cmpV_tt {a b : Val} (ha : a.null = true) (hb : b.null = true) : cmpV a b = 0 := by
  unfold cmpV
  rw [if_pos (.inr ha)]
  simp [rankV, ha, hb, cmpI]
theorem cmpV_anti {a b : Val} (hk : a.kind = b.kind) : cmpV b a = -cmpV a b := by
  cases ha : a.null <;> cases hb : b.null
  · rw [cmpV_nn ha hb, cmpV_nn hb ha, ← hk]
    split
    · exact cmpI_anti _ _
    · split
      · exact cb_anti _ _
      · rfl
  · rw [cmpV_nt ha hb, cmpV_tn hb ha]
  · rw [cmpV_tn ha hb, cmpV_nt hb ha]; rfl
  · rw [cmpV_tt ha hb, cmpV_tt hb ha]; rfl
theorem cmpV_trans {a b c : Val} (hk : a.kind = b.kind) (h : cmpV a b ≤ 0) (k : cmpV b c ≤ 0) : cmpV a c ≤ 0 := by
  cases ha : a.null <;> cases hb : b.null <;> cases hc : c.null
  · rw [cmpV_nn ha hb] at h; rw [cmpV_nn hb hc, ← hk] at k; rw [cmpV_nn ha hc]
    split at h
    · rename_i h1; rw [if_pos h1] at k ⊢; exact cmpI_trans h k
    · rename_i h1
      rw [if_neg h1] at k ⊢
      split at h
      · rename_i h2; rw [if_pos h2] at k ⊢; exact cb_trans h k
      · rename_i h2; rw [if_neg h2]; omega
  · rw [cmpV_nt hb hc] at k; omega
  · rw [cmpV_nt ha hb] at h; omega
  · rw [cmpV_nt ha hb] at h; omega
  · rw [cmpV_tn ha hc]; omega
  · rw [cmpV_nt hb hc] at k; omega
  · rw [cmpV_tn ha hc]; omega
  · rw [cmpV_tt ha hc]; omega
/-- alike in kinds, and such as may be -/
theorem cmpV_zero {a b : Val} (hk : a.kind = b.kind) (ha : isV a = true) (hb : isV b = true) : cmpV a b = 0 ↔ sameV a b = true := by
  have e0 : ∀ {v : Val}, isV v = true → v.null = true → v.int = 0 ∧ v.b = [] := fun {v} h hn => by
    unfold isV at h
    split at h
    · simp [hn] at h; exact ⟨h.1, by simp [Val.b, h.2]⟩
    · split at h
      · simp [hn] at h; exact ⟨h.1, by simp [Val.b, h.2]⟩
      · cases h
  have e1 : ∀ {v : Val}, isV v = true → v.null = false → v.kind = 1 → v.b = [] := fun {v} h hn hk => by
    unfold isV at h
    simp [hk, hn] at h; simp [Val.b, h]
  have e2 : ∀ {v : Val}, isV v = true → v.null = false → v.kind ≠ 1 → v.kind = 2 ∧ v.int = 0 := fun {v} h hn hk => by
    unfold isV at h
    simp [hk, hn] at h; exact ⟨h.1, h.2.1⟩
  cases na : a.null <;> cases nb : b.null
  · rw [cmpV_nn na nb]
    by_cases h1 : a.kind = 1
    · rw [if_pos h1, cmpI_zero]
      simp [sameV, na, nb, hk, e1 ha na h1, e1 hb nb (hk ▸ h1)]
    · have h2 := e2 ha na h1
      have h3 := e2 hb nb (hk ▸ h1)
      rw [if_neg h1, if_pos h2.1, cb_zero]
      simp [sameV, na, nb, hk, h2.2, h3.2]
  · rw [cmpV_nt na nb]; simp [sameV, na, nb]
  · rw [cmpV_tn na nb]; simp [sameV, na, nb]
  · rw [cmpV_tt na nb]
    simp [sameV, na, nb, hk, e0 ha na, e0 hb nb]
/-! rows -/
def kinds (r : List Val) : List Int := r.map Val.kind
theorem cmpRows_anti : ∀ {a b : List Val}, kinds a = kinds b → cmpRows b a = -cmpRows a b
  | [], [], _ => rfl
  | [], _ :: _, h => by simp [kinds] at h
  | _ :: _, [], h => by simp [kinds] at h
  | x :: a, y :: b, h => by
    simp only [kinds, List.map_cons, List.cons.injEq] at h
    have ih := cmpRows_anti (a := a) (b := b) h.2
    have hx := cmpV_anti h.1
    simp only [cmpRows]
    by_cases h0 : cmpV x y = 0
    · rw [if_neg (by rw [hx, h0]; decide), if_neg (by simp [h0]), ih]
    · rw [if_pos (by rw [hx]; omega), if_pos h0, hx]
theorem cmpRows_range : ∀ a b : List Val, -1 ≤ cmpRows a b ∧ cmpRows a b ≤ 1
  | [], [] => by simp [cmpRows]
  | [], _ :: _ => by simp [cmpRows]
  | _ :: _, [] => by simp [cmpRows]
  | x :: a, y :: b => by
    simp only [cmpRows]
    split
    · exact cmpV_range _ _
    · exact cmpRows_range a b
theorem cmpRows_trans : ∀ {a b c : List Val}, kinds a = kinds b → kinds b = kinds c → cmpRows a b ≤ 0 → cmpRows b c ≤ 0 → cmpRows a c ≤ 0
  | [], [], [], _, _, _, _ => by simp [cmpRows]
  | [], _ :: _, _, h, _, _, _ => by simp [kinds] at h
  | _ :: _, [], _, h, _, _, _ => by simp [kinds] at h
  | [], [], _ :: _, _, h, _, _ => by simp [kinds] at h
  | _ :: _, _ :: _, [], _, h, _, _ => by simp [kinds] at h
  | x :: a, y :: b, z :: c, h, k, hi, hj => by
    simp only [kinds, List.map_cons, List.cons.injEq] at h k
    have ih := cmpRows_trans (a := a) (b := b) (c := c) h.2 k.2
    simp only [cmpRows] at hi hj ⊢
    have hxy : cmpV x y ≤ 0 := by split at hi <;> omega
    have hyz : cmpV y z ≤ 0 := by split at hj <;> omega
    have hxz := cmpV_trans h.1 hxy hyz
    split
    · exact hxz
    · rename_i h0
      have h0 : cmpV x z = 0 := by omega
      have hzx : cmpV z x = 0 := by rw [cmpV_anti (h.1.trans k.1), h0]; rfl
      -- all are the same
      have hyx : cmpV y x ≤ 0 := cmpV_trans k.1 hyz (by omega)
      have e1 : cmpV x y = 0 := by have := cmpV_anti h.1; omega
      have hzy : cmpV z y ≤ 0 := cmpV_trans (h.1.trans k.1).symm (by omega) hxy
      have e2 : cmpV y z = 0 := by have := cmpV_anti k.1; omega
      rw [if_neg (by simp [e1])] at hi
      rw [if_neg (by simp [e2])] at hj
      exact ih hi hj
theorem cmpRows_zero : ∀ {a b : List Val}, kinds a = kinds b → (∀ v ∈ a, isV v = true) → (∀ v ∈ b, isV v = true) → (cmpRows a b = 0 ↔ sameR a b = true)
  | [], [], _, _, _ => by simp [cmpRows, sameR]
  | [], _ :: _, h, _, _ => by simp [kinds] at h
  | _ :: _, [], h, _, _ => by simp [kinds] at h
  | x :: a, y :: b, h, ha, hb => by
    simp only [kinds, List.map_cons, List.cons.injEq] at h
    have ih := cmpRows_zero (a := a) (b := b) h.2 (fun v hv => ha v (List.mem_cons_of_mem _ hv)) (fun v hv => hb v (List.mem_cons_of_mem _ hv))
    have hx := cmpV_zero h.1 (ha x List.mem_cons_self) (hb y List.mem_cons_self)
    have hlen : a.length = b.length := by have := congrArg List.length h.2; simpa using this
    simp only [sameR, hlen, decide_true, Bool.true_and] at ih
    simp only [cmpRows, sameR, List.length_cons, hlen, decide_true, Bool.true_and, List.zipWith_cons_cons, List.all_cons, id]
    by_cases h0 : cmpV x y = 0
    · rw [if_neg (by simp [h0]), ih, hx.1 h0]; simp
    · rw [if_pos h0]
      have : sameV x y = false := by cases hs : sameV x y; rfl; exact absurd (hx.2 hs) h0
      simp [this, h0]
/-! rows of numbers -/
theorem colN_kind (n : Int) (i : Nat) : (colN n i).kind = 1 ∨ (colN n i).kind = 2 := by
  simp only [colN]; omega
theorem schemaN_kind {n : Int} {c : Col} (h : c ∈ schemaN n) : c.kind = 1 ∨ c.kind = 2 := by
  simp only [schemaN, colsN, List.mem_cons, List.mem_map] at h
  rcases h with rfl | ⟨i, _, rfl⟩
  · exact .inl rfl
  · exact colN_kind n i
theorem schemaN_zero (n : Int) : (schemaN n)[0]? = some keyCol := rfl
theorem valueN_kind (c : Col) (n : Int) : (valueN c n).kind = c.kind := by unfold valueN; split <;> (try split) <;> rfl
theorem valueN_isV {c : Col} (h : c.kind = 1 ∨ c.kind = 2) (n : Int) : isV (valueN c n) = true := by
  unfold valueN
  split
  · rcases h with h | h <;> simp [isV, h, bz]
  · split
    · rename_i h1; simp [isV, h1, bz]
    · rename_i h1
      have h2 : c.kind = 2 := h.resolve_left h1
      have : (bytesV n).length ≤ 64 := by
        simp only [bytesV, List.length_drop, List.length_take, List.length_cons, List.length_nil]; omega
      simp [isV, h2, bz, this]
theorem valueN_holds {c : Col} (h : c.kind = 1 ∨ c.kind = 2) (n : Int) : holds c (valueN c n) = true := by
  have h1 := valueN_isV h n
  have h2 := valueN_kind c n
  unfold holds
  rw [h1, h2]
  simp only [decide_true, Bool.true_and]
  unfold valueN
  split
  · rename_i h3; simp [h3.1]
  · split <;> simp
theorem rowE_holds {n m : Int} {i : Nat} {c : Col} (h : (schemaN n)[i]? = some c) : holds c (rowE m i c) = true := by
  unfold rowE
  split
  · rename_i h0
    subst h0
    rw [schemaN_zero] at h
    injection h with h
    subst h
    rfl
  · exact valueN_holds (schemaN_kind (List.mem_of_getElem? h)) _
theorem holds_isV {c : Col} {v : Val} (h : holds c v = true) : isV v = true ∧ v.kind = c.kind := by
  simp [holds] at h; exact ⟨h.1, h.2.1⟩
theorem rowN_isV (n m : Int) : ∀ v ∈ rowN (schemaN n) m, isV v = true := fun v hv => by
  obtain ⟨i, hi⟩ := List.getElem?_of_mem hv
  have hl : i < (schemaN n).length := by have := (List.getElem?_eq_some_iff.1 hi).1; rwa [rowN_length] at this
  have hc : (schemaN n)[i]? = some (schemaN n)[i] := List.getElem?_eq_getElem hl
  rw [rowN_get hc] at hi
  injection hi with hi
  subst hi
  exact (holds_isV (rowE_holds hc)).1
theorem rowN_kinds (n m : Int) : kinds (rowN (schemaN n) m) = (schemaN n).map Col.kind := by
  apply List.ext_getElem?
  intro i
  simp only [kinds, List.getElem?_map]
  by_cases hl : i < (schemaN n).length
  · have hc : (schemaN n)[i]? = some (schemaN n)[i] := List.getElem?_eq_getElem hl
    rw [rowN_get hc, hc]
    exact congrArg some (holds_isV (rowE_holds hc)).2
  · rw [List.getElem?_eq_none (l := schemaN n) (by omega), List.getElem?_eq_none (l := rowN (schemaN n) m) (by rw [rowN_length]; omega)]
    rfl
end Go.Den
namespace Go.Den
open Go
theorem fits_rowN (n m : Int) : fits (schemaN n) (rowN (schemaN n) m) = true := by
  unfold fits
  rw [rowN_length]
  simp only [decide_true, Bool.true_and, List.all_eq_true]
  intro b hb
  obtain ⟨i, hi⟩ := List.getElem?_of_mem hb
  rw [List.getElem?_zipWith] at hi
  cases hc : (schemaN n)[i]? with
  | none => rw [hc] at hi; simp at hi
  | some c =>
    rw [hc, rowN_get hc] at hi
    simp only [Option.some.injEq] at hi
    rw [← hi]
    exact rowE_holds hc
theorem fits_len {s : List Col} {r : List Val} (h : r.length ≠ s.length) : fits s r = false := by
  unfold fits
  rw [decide_eq_false h, Bool.false_and]
theorem fits_set {s : List Col} {r : List Val} (h : fits s r = true) {k : Nat} {c : Col} (hc : s[k]? = some c) (w : Val) : fits s (r.set k w) = holds c w := by
  simp only [fits, Bool.and_eq_true, decide_eq_true_eq] at h
  obtain ⟨hl, ha⟩ := h
  rw [List.all_eq_true] at ha
  have hk : k < s.length := (List.getElem?_eq_some_iff.1 hc).1
  unfold fits
  rw [List.length_set, decide_eq_true hl, Bool.true_and]
  have hget : (List.zipWith holds s (r.set k w))[k]? = some (holds c w) := by
    rw [List.getElem?_zipWith, hc, List.getElem?_set_self (by omega)]
  cases hw : holds c w with
  | false =>
    rw [hw] at hget
    rw [List.all_eq_false]
    exact ⟨false, List.mem_of_getElem? hget, by simp⟩
  | true =>
    rw [List.all_eq_true]
    intro b hb
    obtain ⟨i, hi⟩ := List.getElem?_of_mem hb
    by_cases hik : i = k
    · subst hik
      rw [hget, hw] at hi
      injection hi with hi
      rw [← hi]; rfl
    · rw [List.getElem?_zipWith, List.getElem?_set_ne (Ne.symm hik)] at hi
      refine ha b (List.mem_of_getElem? (i := i) ?_)
      rw [List.getElem?_zipWith]; exact hi
theorem take_map (r : List Val) (n : Nat) : (r.map Val.pv).take n = (r.take n).map Val.pv := List.map_take.symm
theorem snoc_bl (r : List Val) (a : Bool) (b c : Int) (o : Option (List Int)) : r.map Val.pv ++ [[.bool a, .int .i64 b, .int .i64 c, bl o]] = (r ++ [(⟨a, b, c, o⟩ : Val)]).map Val.pv := by simp [Val.pv]
theorem set_bl (r : List Val) (k : Nat) (a : Bool) (b c : Int) (o : Option (List Int)) : (r.map Val.pv).set k [.bool a, .int .i64 b, .int .i64 c, bl o] = (r.set k (⟨a, b, c, o⟩ : Val)).map Val.pv := by simp [Val.pv, List.map_set]
theorem set_nils (r : List Val) (k : Nat) (a : Bool) (b c : Int) : (r.map Val.pv).set k [.bool a, .int .i64 b, .int .i64 c, .nils] = (r.set k (⟨a, b, c, none⟩ : Val)).map Val.pv := set_bl r k a b c none
theorem set_sl (r : List Val) (k : Nat) (a : Bool) (b c : Int) (zs : List Int) : (r.map Val.pv).set k [.bool a, .int .i64 b, .int .i64 c, .sl 1 (ints .u8 zs)] = (r.set k (⟨a, b, c, some zs⟩ : Val)).map Val.pv := set_bl r k a b c (some zs)
end Go.Den
