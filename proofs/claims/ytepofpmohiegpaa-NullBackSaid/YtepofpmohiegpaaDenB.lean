/- Den, part B: what a value of the machine tells (Rep), and how that stays. -/
import Derived.Test.YtepofpmohiegpaaDenA
import Derived.ArgAppend
import Derived.Laws.AppendOwn
import Derived.Laws.Rows
namespace Go.Den

/-! ### cells by block -/
theorem cell_of_heap {w : World} {g o : Nat} {cur : Array Value} {t : TypeId} {fz : Nat × Nat} (h : w.heap[g]? = some (.cells cur t fz)) : w.cell? ⟨g, o, none⟩ = cur[o]? := by
  simp [World.cell?, h]
theorem cell_congr {w w' : World} {g : Nat} (h : w'.heap[g]? = w.heap[g]?) (o : Nat) : w'.cell? ⟨g, o, none⟩ = w.cell? ⟨g, o, none⟩ := by
  simp [World.cell?, h]
theorem cell_lt {w : World} {g o : Nat} {v : Value} (h : w.cell? ⟨g, o, none⟩ = some v) : g < w.heap.size := by
  simp only [World.cell?] at h
  cases hg : w.heap[g]? with
  | none => simp [hg] at h
  | some x => exact (Array.getElem?_eq_some_iff.1 hg).1
theorem add_off (g o j : Nat) : (⟨g, o, none⟩ : Addr).add j = ⟨g, o + j, none⟩ := by
  unfold Addr.add; split <;> simp_all

/-! ### what is only read -/
inductive Rep (w : World) (ok : Nat → Prop) : Value → PV → Prop
  | undef : Rep w ok Go.undef .undef
  | int (k : IntKind) (n : Int) : Rep w ok (.int k n) (.int k n)
  | bool (b : Bool) : Rep w ok (.bool b) (.bool b)
  | str (s : ByteArray) : Rep w ok (.string s) (.str s.data.toList)
  | nils : Rep w ok (.slice none 0 0) .nils
  | sl (a : Option Addr) (c sz : Nat) (xs : List (List PV)) (vs : Nat → Nat → Value) (hc : xs.length ≤ c) (hz : ∀ x ∈ xs, x.length = sz) (hp : ∀ x ∈ xs, ∀ p ∈ x, plainLeaf p = true)
      (hr : ∀ (i : Nat) x (j : Nat) p, xs[i]? = some x → x[j]? = some p → ∃ g o, a = some ⟨g, o, none⟩ ∧ ok g ∧ w.cell? ⟨g, o + (i * sz + j), none⟩ = some (vs i j))
      (hv : ∀ (i : Nat) x (j : Nat) p, xs[i]? = some x → x[j]? = some p → Rep w ok (vs i j) p) : Rep w ok (.slice a xs.length c) (.sl sz xs)
  | nilp : Rep w ok (.pointer none) .nilp
  | pc (a : Addr) (cs : List PV) (vs : Nat → Value) (hp : ∀ p ∈ cs, plainLeaf p = true)
      (hr : ∀ (j : Nat) p, cs[j]? = some p → ∃ g o, a = ⟨g, o, none⟩ ∧ ok g ∧ w.cell? ⟨g, o + j, none⟩ = some (vs j))
      (hv : ∀ (j : Nat) p, cs[j]? = some p → Rep w ok (vs j) p) : Rep w ok (.pointer (some a)) (.pc cs)
  | nilf : Rep w ok .nilFunc .nilf
  | fn (f : FuncId) (caps : Array Value) (cs : List PV) (hl : caps.size = cs.length) (hp : ∀ p ∈ cs, plainLeaf p = true) (hv : ∀ (j : Nat) v p, caps[j]? = some v → cs[j]? = some p → Rep w ok v p) : Rep w ok (.func (.func f) #[] caps) (.fn f cs)
  | agg (cells : Array Value) (cs : List PV) (hl : cells.size = cs.length) (hp : ∀ p ∈ cs, plainLeaf p = true) (hv : ∀ (j : Nat) v p, cells[j]? = some v → cs[j]? = some p → Rep w ok v p) : Rep w ok (.agg cells) (.agg cs)
  | tup (vs : Array Value) (ps : List PV) (hl : vs.size = ps.length) (hv : ∀ (j : Nat) v p, vs[j]? = some v → ps[j]? = some p → Rep w ok v p) : Rep w ok (.tuple vs) (.tup ps)

theorem Rep.mono {w w' : World} {ok ok' : Nat → Prop} (hk : ∀ k, ok k → ok' k ∧ w'.heap[k]? = w.heap[k]?) {v : Value} {p : PV} (h : Rep w ok v p) : Rep w' ok' v p := by
  induction h with
  | undef => exact .undef
  | int => exact .int ..
  | bool => exact .bool ..
  | str => exact .str ..
  | nils => exact .nils
  | sl a c sz xs vs hc hz hp hr hv ih =>
    refine .sl a c sz xs vs hc hz hp (fun i x j p hx hp => ?_) (fun i x j p hx hp => ih i x j p hx hp)
    obtain ⟨g, o, rfl, hg, hcell⟩ := hr i x j p hx hp
    exact ⟨g, o, rfl, (hk g hg).1, by rw [cell_congr (hk g hg).2]; exact hcell⟩
  | nilp => exact .nilp
  | pc a cs vs hp hr hv ih =>
    refine .pc a cs vs hp (fun j p hp => ?_) (fun j p hp => ih j p hp)
    obtain ⟨g, o, rfl, hg, hcell⟩ := hr j p hp
    exact ⟨g, o, rfl, (hk g hg).1, by rw [cell_congr (hk g hg).2]; exact hcell⟩
  | nilf => exact .nilf
  | fn f caps cs hl hp hv ih => exact .fn f caps cs hl hp (fun j v p h1 h2 => ih j v p h1 h2)
  | agg cells cs hl hp hv ih => exact .agg cells cs hl hp (fun j v p h1 h2 => ih j v p h1 h2)
  | tup vs ps hl hv ih => exact .tup vs ps hl (fun j v p h1 h2 => ih j v p h1 h2)

/-- A leaf of what is sealed. -/
theorem Rep.one {w : World} {ok : Nat → Prop} {v : Value} {p : PV} (h : Rep w ok v p) (hp : plainLeaf p = true) : v.oneCell' = true ∧ v.cells = #[v] := by
  cases h <;> simp_all [plainLeaf, Value.oneCell', Value.cells]

/-! ### what slots hold -/
structure Gh where
  V : Nat → Option Value
  B : Nat → Option Nat
  Z : Nat → Nat
  A : Nat → Prop

inductive RepL (w : World) (ok : Nat → Prop) (G : Gh) : Value → PV → Prop
  | pl {v p} (h : Rep w ok v p) (hp : plainLeaf p = true) : RepL w ok G v p
  | h {v d} (h : G.V d = some v) (h1 : v.oneCell' = true) : RepL w ok G v (.h d)
  | pb {d b} (off : Nat) (h : G.B d = some b) : RepL w ok G (.pointer (some ⟨b, off, none⟩)) (.pb d off)
  | pe {d g n c} (i off : Nat) (h : G.V d = some (.slice (some ⟨g, 0, none⟩) n c)) : RepL w ok G (.pointer (some ⟨g, i * G.Z d + off, none⟩)) (.pe d i off)

theorem RepL.one {w ok G v p} (h : RepL w ok G v p) : v.oneCell' = true ∧ v.cells = #[v] := by
  cases h with
  | pl h hp => exact h.one hp
  | h h h1 => exact ⟨h1, by cases v <;> simp_all [Value.oneCell', Value.cells]⟩
  | pb => exact ⟨rfl, rfl⟩
  | pe => exact ⟨rfl, rfl⟩

inductive RepS (w : World) (ok : Nat → Prop) (G : Gh) : Value → PV → Prop
  | undef : RepS w ok G Go.undef .undef
  | leaf {v p} (h : RepL w ok G v p) : RepS w ok G v p
  | agg (cells : Array Value) (cs : List PV) (hl : cells.size = cs.length) (hv : ∀ (j : Nat) v p, cells[j]? = some v → cs[j]? = some p → RepL w ok G v p) : RepS w ok G (.agg cells) (.agg cs)
  | fn (f : FuncId) (caps : Array Value) (cs : List PV) (hl : caps.size = cs.length) (hv : ∀ (j : Nat) v p, caps[j]? = some v → cs[j]? = some p → RepL w ok G v p) : RepS w ok G (.func (.func f) #[] caps) (.fn f cs)
  | tup (vs : Array Value) (ps : List PV) (hl : vs.size = ps.length) (hv : ∀ (j : Nat) v p, vs[j]? = some v → ps[j]? = some p → RepS w ok G v p) : RepS w ok G (.tuple vs) (.tup ps)

/-- What was so stays so. -/
structure Adv (w : World) (ok : Nat → Prop) (G : Gh) (w' : World) (ok' : Nat → Prop) (G' : Gh) : Prop where
  V : ∀ d v, G.V d = some v → G'.V d = some v
  B : ∀ d b, G.B d = some b → G'.B d = some b
  Z : ∀ d, G.V d ≠ none → G'.Z d = G.Z d
  ok : ∀ k, ok k → ok' k ∧ w'.heap[k]? = w.heap[k]?
  A : G'.A = G.A
theorem Adv.refl (w : World) (ok : Nat → Prop) (G : Gh) : Adv w ok G w ok G := ⟨fun _ _ h => h, fun _ _ h => h, fun _ _ => rfl, fun _ h => ⟨h, rfl⟩, rfl⟩
theorem Adv.trans {w ok G w1 ok1 G1 w2 ok2 G2} (h : Adv w ok G w1 ok1 G1) (k : Adv w1 ok1 G1 w2 ok2 G2) : Adv w ok G w2 ok2 G2 :=
  ⟨fun d v hv => k.V d v (h.V d v hv), fun d b hb => k.B d b (h.B d b hb), fun d hd => by
    cases hv : G.V d with
    | none => exact absurd hv hd
    | some v => rw [k.Z d (by rw [h.V d v hv]; simp), h.Z d hd],
   fun x hx => ⟨(k.ok x (h.ok x hx).1).1, (k.ok x (h.ok x hx).1).2.trans (h.ok x hx).2⟩, k.A.trans h.A⟩
theorem RepL.adv {w ok G w' ok' G' v p} (h : RepL w ok G v p) (ha : Adv w ok G w' ok' G') : RepL w' ok' G' v p := by
  cases h with
  | pl h hp => exact .pl (h.mono ha.ok) hp
  | h h h1 => exact .h (ha.V _ _ h) h1
  | pb off h => exact .pb off (ha.B _ _ h)
  | pe i off h =>
    have := RepL.pe (w := w') (ok := ok') i off (ha.V _ _ h)
    rwa [ha.Z _ (by rw [h]; simp)] at this
theorem RepS.adv {w ok G w' ok' G' v p} (ha : Adv w ok G w' ok' G') (h : RepS w ok G v p) : RepS w' ok' G' v p := by
  induction h with
  | undef => exact .undef
  | leaf h => exact .leaf (h.adv ha)
  | agg cells cs hl hv => exact .agg cells cs hl fun j v p h1 h2 => (hv j v p h1 h2).adv ha
  | fn f caps cs hl hv => exact .fn f caps cs hl fun j v p h1 h2 => (hv j v p h1 h2).adv ha
  | tup vs ps hl hv ih => exact .tup vs ps hl fun j v p h1 h2 => ih j v p h1 h2

/-- What is sealed is a slot's value, too (as far as its form goes). -/
theorem Rep.S {w ok G v p} (h : Rep w ok v p) (hp : plainLeaf p = true) : RepS w ok G v p := .leaf (.pl h hp)

/-! ### the leaves of a value -/
theorem RepS.leaves {w ok G v p cs} (h : RepS w ok G v p) (hl : leavesO p = some cs) :
    v.cells.size = cs.length ∧ ∀ (j : Nat) u q, v.cells[j]? = some u → cs[j]? = some q → RepL w ok G u q := by
  cases h with
  | undef => simp [leavesO, okLeaf] at hl
  | leaf h =>
    have h1 := h.one
    have hl' : cs = [p] := by
      cases h with
      | pl h hp => cases p <;> simp_all [plainLeaf, leavesO, okLeaf]
      | _ => simp_all [leavesO, okLeaf]
    rw [h1.2, hl']
    refine ⟨rfl, fun j u q hu hq => ?_⟩
    cases j with
    | zero => simp at hu hq; subst hu; subst hq; exact h
    | succ j => simp at hu
  | agg cells ps hl' hv => simp [leavesO] at hl; subst hl; exact ⟨hl', fun j u q hu hq => hv j u q hu hq⟩
  | fn f caps cs => simp [leavesO, okLeaf] at hl
  | tup vs ps => simp [leavesO, okLeaf] at hl
end Go.Den
